/- Pages: what they are; page.Put and the reference's. -/
import Derived.Test.YtdjhocgfdbnkmaaRcrc2
namespace Go.Proofs.Ytdjhocgfdbnkmaa.Page
open Go.RowKit Mem Bytes Fix Crc
set_option linter.unusedVariables false
set_option linter.unusedSimpArgs false
/-- A page ahead of its sum. -/
def pg (k : Int) (L : List Int) : List Int := [157, 76, k, (L.length : Int)] ++ L ++ List.replicate (120 - L.length) 0
def page (k : Int) (L : List Int) : List Int := pg k L ++ le (crcV (pg k L) : Nat) 4
theorem pg_length {k : Int} {L : List Int} (h : L.length ≤ 120) : (pg k L).length = 124 := by simp [pg]; omega
theorem page_length {k : Int} {L : List Int} (h : L.length ≤ 120) : (page k L).length = 128 := by simp [page, pg_length h, le_length]
theorem pg_isB {k : Int} {L : List Int} (hk : 0 ≤ k ∧ k ≤ 255) (hL : L.length ≤ 120) (h : IsB L) : IsB (pg k L) :=
  ((IsB.cons (by omega) (IsB.cons (by omega) (IsB.cons hk (IsB.cons (by omega) IsB.nil)))).append h).append (IsB.replicate _)
theorem page_isB {k : Int} {L : List Int} (hk : 0 ≤ k ∧ k ≤ 255) (hL : L.length ≤ 120) (h : IsB L) : IsB (page k L) := (pg_isB hk hL h).append (le_isB _ _)
theorem _root_.Go.Proofs.Ytdjhocgfdbnkmaa.Fix.OB.sl {w : World} {base : Nat} {v : Value} {L : List Int} (h : OB w base v L) (n : Nat) (hn : L.length = n) :
    ∃ A c, v = .slice A n c ∧ BS w A L ∧ n ≤ c ∧ c ≤ maxLen ∧ (A = none → c = 0) ∧ (∀ a, A = some a → base ≤ a.block ∧ a.block < w.heap.size) := by
  subst hn; exact OwnL.sl h
theorem crcV_lt (L : List Int) : crcV L < 4294967296 := by unfold crcV; omega
theorem magic : le 19613 2 = [157, 76] := by decide

theorem kind_yes (k : Int) (w : World) (h1 : 1 ≤ k) (h2 : k ≤ 6) : Calls Try.prog 196 #[.int .i64 k] w fun e w' => e = .returned (.bool true) ∧ w = w' := by
  have d1 : decide (1 ≤ k) = true := by simpa using h1
  go_enter Try.func196, Try.ntmps196
  go_wp2
  go_ret
  exact ⟨rfl, rfl⟩
theorem kind_no (k : Int) (w : World) (h : k < 1 ∨ (1 ≤ k ∧ 6 < k)) : Calls Try.prog 196 #[.int .i64 k] w fun e w' => e = .returned (.bool false) ∧ w = w' := by
  rcases h with h | ⟨h1, h2⟩
  · have d1 : decide (1 ≤ k) = false := by simpa using h
    go_enter Try.func196, Try.ntmps196
    go_wp2
    go_ret
    exact ⟨rfl, rfl⟩
  · have d1 : decide (1 ≤ k) = true := by simpa using h1
    have d2 : decide (k ≤ 6) = false := by simpa using h2
    go_enter Try.func196, Try.ntmps196
    go_wp2
    go_ret
    exact ⟨rfl, rfl⟩
theorem zero_B : ∃ (i : TypeInfo) (z : Value), Try.prog.info? 5 = some i ∧ i.zero = some z ∧ i.size = 1 ∧ i.bytes = 1 ∧ z.cells = #[.int .u8 0] := by
  obtain ⟨i, h0, h1, h2, h3⟩ := info_parts (show (Try.prog.info? 5).map (fun i => (i.zero, i.size, i.bytes)) = some (some (.int .u8 0), 1, 1) by kernel_rfl)
  exact ⟨i, _, h0, h1, h2, h3, rfl⟩
/-- make([]byte, 0, n). -/
theorem made (n : Nat) (hn : n ≤ 100000) : ∃ cs : Array Value, cs.size = n ∧ ∀ w, (Instr.makeSlice 127 (.int .i64 0) (.int .i64 (n : Int))).run Try.prog w = .ok (.slice (some ⟨w.heap.size, 0, none⟩) 0 n) (w.alloc (.cells cs 5)) := by
  obtain ⟨i, z, hi, hz, hs, hb, hzc⟩ := elt_B.hi
  refine ⟨madeCells z.cells (n * i.size), by rw [size_madeCells, hs, Nat.mul_one], fun w => ?_⟩
  have := run_make (P := Try.prog) w 127 5 i z elt_B.ht hi hz .i64 .i64 0 (n : Int) (by omega) (by omega) (by rw [hb]; omega) (by omega)
  simpa using this
theorem put_arg (k : Int) (v : Value) (w : World) (h : k < 1 ∨ (1 ≤ k ∧ 6 < k)) : Calls Try.prog 173 #[.int .i64 k, v] w fun e w' => e = .returned (.tuple #[.slice none 0 0, .int .i64 10]) ∧ w = w' := by
  have H := Lib.hid h
  clear h
  go_enter Try.func173, Try.ntmps173
  go_wp2_with (go_at_call 196; refine (kind_no k _ H.out).mono ?_; rintro e w' ⟨rfl, rfl⟩)
  go_ret2
  exact ⟨rfl, rfl⟩
theorem put_size (k : Int) (A : Option Addr) (m c : Nat) (w : World) (h1 : 1 ≤ k) (h2 : k ≤ 6) (hm : 120 < m) : Calls Try.prog 173 #[.int .i64 k, .slice A m c] w fun e w' => e = .returned (.tuple #[.slice none 0 0, .int .i64 12]) ∧ w = w' := by
  go_enter Try.func173, Try.ntmps173
  go_wp2_with (go_at_call 196; refine (kind_yes k _ h1 h2).mono ?_; rintro e w' ⟨rfl, rfl⟩)
  go_ret2
  exact ⟨rfl, rfl⟩
set_option maxRecDepth 100000 in
set_option maxHeartbeats 1000000 in
theorem put_ok (k : Int) (A : Option Addr) (m c : Nat) (L : List Int) (w : World) (h1 : 1 ≤ k) (h2 : k ≤ 6) (hm : m = L.length) (hm2 : m ≤ 120) (h : BS w A L) (hB : IsB L) :
    Calls Try.prog 173 #[.int .i64 k, .slice A m c] w fun e w' => ∃ v, e = .returned (.tuple #[v, .int .i64 0]) ∧ OB w' w.heap.size v (page k L) ∧ Below w.heap.size w w' := by
  have H := Lib.hid h
  clear h
  have HM := Lib.hid hm
  clear hm
  obtain ⟨cs, hcs, hmk⟩ := made 128 (by omega)
  have HCS := Lib.hid hcs
  clear hcs
  replace hmk : ∀ w, (Instr.makeSlice 127 (.int .i64 0) (.int .i64 128)).run Try.prog w = .ok (.slice (some ⟨w.heap.size, 0, none⟩) 0 128) (w.alloc (.cells cs 5)) := hmk
  go_enter Try.func173, Try.ntmps173
  go_wp2_with fail
  refine (kind_yes k _ h1 h2).mono ?_
  rintro e w' ⟨rfl, rfl⟩
  go_wp2_with fail
  have HO0 : Hid (OB (w.alloc (.cells cs 5)) w.heap.size (.slice (some ⟨w.heap.size, 0, none⟩) 0 128) []) := Lib.hid (OwnL.made _ rfl (Nat.le_refl _) (by unfold maxLen; omega) (by rw [HCS.out]))
  have HB0 : Below w.heap.size w (w.alloc (.cells cs 5)) := (by repeat (first | assumption | exact Below.refl _ _ | refine bel_alloc ?_ _ | refine bel_drewN ?_ _ | refine bel_drew ?_ | refine bel_set ?_ (by first | (simp; done) | omega | (simp; omega)) _ | refine bel_trans ?_ (by assumption)))
  clear hmk
  refine (put_any w.heap.size _ [] 19613 2 2 _ rfl (by omega) (by omega) HO0.out (by simp) (by simp)).mono ?_
  rintro e w2 ⟨v2, rfl, ho2, hg2⟩
  have HB2 : Below w.heap.size w w2 := hg2.bel HB0 HO0.out
  have HO2 := Lib.hid ho2
  clear ho2 hg2 HO0 HB0
  go_wp2_with (first
    | (at_builtin; refine wpList_append_sl _ rfl (.tmp 15) (.tmp 21) 127 rfl elt_B w.heap.size (IE .u8) _ _ rfl (HO2.out.alloc _) _ _ _ _ rfl rfl (sl_lit _ _ [_, _] _ _ _ (by simp) rfl) (fun _ _ => rfl) (by simp [le_length, maxLen]) (by simp [le_length]) (by have := HB2.size; simp; omega) ?_; intro v3 w3 hown3 hgrow3; have HO3 := Lib.hid hown3; have HB3 : Below w.heap.size w w3 := hgrow3.bel (bel_alloc HB2 _) (HO2.out.alloc _); clear hown3 hgrow3)
    | (at_builtin; refine wpList_append_sl _ rfl (.tmp 23) (.tmp 24) 127 rfl elt_B w.heap.size (IE .u8) _ _ rfl HO3.out _ _ _ L rfl HM.out (H.out.below HB3) (fun _ _ => rfl) (by have := HM.out; simp [le_length, maxLen]; omega) (by have := HM.out; simp [le_length]; omega) (by have := HB3.size; omega) ?_; intro v4 w4 hown4 hgrow4; have HO4 := Lib.hid hown4; have HB4 : Below w.heap.size w w4 := hgrow4.bel HB3 HO3.out; clear hown4 hgrow4)
    | (at_builtin; refine wpList_append_zeros _ rfl (.tmp 26) (.tmp 29) 127 3 rfl elt_B.ht .i64 Try.underlying3 (.int .u8 0) zero_B rfl w.heap.size (IE .u8) 0 (fun _ => rfl) _ _ rfl HO4.out .i64 (120 - m) _ rfl (by omega) (by have := HM.out; simp [le_length, maxLen]; omega) (by have := HM.out; simp [le_length]; omega) (by have := HB4.size; omega) ?_; intro v5 w5 hown5 hgrow5; have HB5 : Below w.heap.size w w5 := hgrow5.bel HB4 HO4.out; have HO5 : Hid (OB w5 w.heap.size v5 (pg k L)) := Lib.hid (OB.of_eq hown5 (by unfold pg; rw [← HM.out]; rfl)); clear hown5 hgrow5; obtain ⟨A5, c5, rfl, hs5, _⟩ := HO5.out.sl 124 (pg_length (by have := HM.out; omega)); have HS5 := Lib.hid hs5; clear hs5))
  have HPB := Lib.hid (pg_isB (k := k) (by omega) (by have := HM.out; omega) hB)
  have hq := crcV_lt (pg k L)
  refine (of_any _ _ A5 124 c5 (pg k L) _ (by simp) (by rw [pg_length (by have := HM.out; omega)]) (by omega) (by exact Sl.alloc HS5.out _) HPB.out).mono ?_
  rintro e w6 ⟨rfl, hb6⟩
  have HB6 : Below w.heap.size w w6 := bel_trans (bel_alloc HB5 _) hb6
  have HO6 := Lib.hid ((OwnL.alloc HO5.out _).below hb6)
  have HP : Hid (page k L = pg k L ++ le (crcV (pg k L) : Nat) 4) := Lib.hid rfl
  clear hb6 HO5
  generalize crcV (pg k L) = q at *
  go_wp2_with fail
  refine (put_any w.heap.size _ (pg k L) (q : Int) 4 4 _ rfl (by omega) (by omega) (by exact HO6.out) (by have := pg_length (k := k) (L := L) (by have := HM.out; omega); omega) (by have := HB6.size; omega)).mono ?_
  rintro e w7 ⟨v7, rfl, ho7, hg7⟩
  have HB7 : Below w.heap.size w w7 := hg7.bel HB6 HO6.out
  have HO7 := Lib.hid ho7
  clear ho7 hg7
  go_wp2
  go_ret2
  exact ⟨_, rfl, HO7.out.of_eq HP.out.symm, HB7⟩
end Go.Proofs.Ytdjhocgfdbnkmaa.Page
