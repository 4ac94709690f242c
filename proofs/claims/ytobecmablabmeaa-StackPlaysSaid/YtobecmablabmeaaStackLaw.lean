/- The walk of the law StackPlays. -/
import Derived.Test.YtobecmablabmeaaStack3
import Derived.Test.YtobecmablabmeaaStep
import Derived.Deep.RegionHeld3
namespace Go.Proofs.Ytobecmablabmeaa.Stack
open Go.RowKit Mem
set_option linter.unusedVariables false
set_option linter.unusedSimpArgs false

theorem alive_any (w : World) : Calls Try.prog 52 #[] w fun e w' => e = .returned (.bool true) ∧ Below w.heap.size w w' := by
  go_enter Try.func52, Try.ntmps52
  go_wp2_with fail
  refine (newI_any 1 w).mono ?_
  rintro e w1 ⟨rfl, hS, hb1⟩
  rw [show most 1 = 1 from rfl] at hS
  have HS := Lib.hid hS
  clear hS
  go_wp2_with fail
  refine (pushI_more 7 _ 0 1 _ _ HS.out (by omega) (by omega)).mono ?_
  rintro e w2 ⟨rfl, hS2, ht2⟩
  have hb2 : Below w.heap.size w w2 := bel_tch hb1 ht2 (Nat.le_refl _)
  have HS2 := Lib.hid hS2
  clear hS2 ht2 hb1 HS
  go_wp2_with fail
  refine (pushI_full 8 _ 1 1 _ _ HS2.out rfl (by omega)).mono ?_
  rintro e w3 ⟨rfl, hS3, ht3⟩
  have hb3 : Below w.heap.size w w3 := bel_tch hb2 ht3 (Nat.le_refl _)
  have HS3 := Lib.hid hS3
  clear hS3 ht3 hb2 HS2
  go_wp2_with fail
  refine (lenI_any _ 1 1 _ _ HS3.out (by omega)).mono ?_
  rintro e w4 ⟨rfl, hb4⟩
  have hb4' := bel_trans hb3 hb4
  clear hb3 hb4
  go_wp2
  go_ret
  exact ⟨rfl, (by repeat (first | assumption | exact Below.refl _ _ | refine bel_alloc ?_ _ | refine bel_drewN ?_ _ | refine bel_drew ?_ | refine bel_trans ?_ (by assumption)))⟩

def OF (K : Nat → Int) (X : Nat → ByteArray) : Nat → Nat → Value := fun i j => if j = 0 then .int .i64 (K i) else .string (X i)
theorem OF_at {w : World} {A : Option Addr} {n : Nat} {K : Nat → Int} {X : Nat → ByteArray} (h : Arr w A n 2 (OF K X)) (k : Nat) (hk : k < n) :
    ∃ b off, A = some ⟨b, off, none⟩ ∧ w.cell? ⟨b, off + k * 2, none⟩ = some (.int .i64 (K k)) ∧ w.cell? ⟨b, off + k * 2 + 1, none⟩ = some (.string (X k)) ∧ b < w.heap.size := by
  obtain ⟨b, off, e, hc⟩ := h (by omega)
  exact ⟨b, off, e, hc k hk 0 (by omega), hc k hk 1 (by omega), lt_of_cell (hc k hk 0 (by omega))⟩
theorem most_le (z : Int) : most z ≤ 16 := by unfold most; omega

theorem bel_own2 {W w w' : World} {base : Nat} {e : TypeId} {sz : Nat} {v : Value} {n : Nat} {F : Nat → Nat → Value} (hb : Below W.heap.size W w) (h : Own w base e sz v n F) (hB : W.heap.size ≤ base) (hg : w.grownBy w' v.ownBlock) : Below W.heap.size W w' :=
  hb.grown hg hb.size fun k hk => by have := (h.lt k hk).1; omega
/-- What holds at the head of a round: the stack has just what the law's own slice has. -/
structure St (w wr : World) (g hi : Nat) (A : Option Addr) (c n : Nat) (S : Nat → ByteArray) : Prop where
  le : n ≤ hi
  stk : ∃ S', StkS wr g S' n hi ∧ ∀ i, i < n → S' i = S i
  arr : Arr wr A n 1 (SF S) ∧ n ≤ c ∧ c ≤ maxLen ∧ (A = none → n = 0 ∧ c = 0) ∧ (∀ a, A = some a → a.block ≠ g)
  bel : Below w.heap.size w wr
theorem St.below {w wr w' : World} {g hi : Nat} {A : Option Addr} {c n : Nat} {S : Nat → ByteArray} (h : St w wr g hi A c n S) (hb : Below wr.heap.size wr w') : St w w' g hi A c n S := by
  obtain ⟨h1, ⟨S', h2, h3⟩, ⟨h5, h6⟩, h7⟩ := h
  exact ⟨h1, ⟨S', stkS_tch h2 hb, h3⟩, ⟨h5.below hb, h6⟩, bel_trans h7 hb⟩

set_option maxRecDepth 100000 in
set_option maxHeartbeats 8000000 in
theorem plays_any (z : Int) (A : Option Addr) (n c : Nat) (K : Nat → Int) (X : Nat → ByteArray) (w : World) (hn : n ≤ 9223372036854775807) (h : Arr w A n 2 (OF K X)) :
    Calls Try.prog 10 #[.int .i64 z, .slice A n c] w fun e w' => e = .returned (.bool true) ∧ Below w.heap.size w w' := by
  have H := Lib.hid h
  clear h
  by_cases c1 : 80 < n
  · go_enter Try.func10, Try.ntmps10
    go_wp2
    go_ret
    exact ⟨rfl, (by repeat (first | assumption | exact Below.refl _ _ | refine bel_alloc ?_ _ | refine bel_drewN ?_ _ | refine bel_drew ?_ | refine bel_trans ?_ (by assumption)))⟩
  have hmost : (most z : Int) = min (max z 0) 16 := by unfold most; omega
  obtain ⟨i0, hi, hz0, hz1, hz2⟩ := info_parts info_str
  obtain ⟨q, hq⟩ : ∃ q, max z 0 = q := ⟨_, rfl⟩
  have hmax : ∀ (w : World) (ts : Array TypeId) (t : TypeId), (Builtin.max_ ts t #[.int .i64 z, .int .i64 0]).run Try.prog w = .ok (.int .i64 q) w := by
    intro w ts t
    have e : (if z < 0 then 0 else z) = max z 0 := by split <;> omega
    simp [Builtin.max_, Builtin.max2, ← hq, e]
  have hmin : ∀ (w : World) (ts : Array TypeId) (t : TypeId), (Builtin.min_ ts t #[.int .i64 q, .int .i64 16]).run Try.prog w = .ok (.int .i64 (most z)) w := by
    intro w ts t
    have e : (if 16 < q then 16 else q) = (most z : Int) := by split <;> omega
    simp [Builtin.min_, Builtin.min2, e]
  have hm16 := most_le z
  clear hq hmost
  go_enter Try.func10, Try.ntmps10
  go_wp2_with fail
  refine (newS_any z w).mono ?_
  rintro e w1 ⟨rfl, hS, hb1⟩
  have h0 : St w w1 w.heap.size (most z) none 0 0 (fun _ => ⟨#[]⟩) := ⟨Nat.zero_le _, ⟨_, hS, fun _ _ => rfl⟩, ⟨Arr.nil, Nat.le_refl _, by unfold maxLen; omega, fun _ => ⟨rfl, rfl⟩, fun a ha => by cases ha⟩, hb1⟩
  have HS := Lib.hid h0
  clear hS h0 hb1
  generalize most z = mz at *
  go_wp2
  go_loopw [7, 8] (fun v i wr => ∃ (k m : Nat) (A1 : Option Addr) (c1 : Nat) (S1 : Nat → ByteArray), k ≤ n ∧ i = .int .i64 k ∧ v = .slice A1 m c1 ∧ Hid (St w wr w.heap.size mz A1 c1 m S1)) (fun _ i _ => n - (intOf i).toNat)
  case atStart => exact ⟨0, 0, none, 0, _, Nat.zero_le _, rfl, rfl, HS⟩
  case round =>
    clear HS
    obtain ⟨k, m, A1, c1, S1, hk, rfl, rfl, HS⟩ := hrel
    by_cases hlt : k < n
    · obtain ⟨b, off, rfl, g1, g2, gb⟩ := OF_at (Arr.below H.out HS.out.bel) k hlt
      have hmz : m ≤ mz := HS.out.le
      by_cases k3 : K k = 3
      · rw [k3] at g1
        have HK := Lib.hid k3
        clear k3
        by_cases m0 : m = 0
        · subst m0
          obtain ⟨S2, hs2, he2⟩ := HS.out.stk
          go_wp2_with fail
          refine (pop0 _ 0 mz _ _ hs2 rfl).mono ?_
          rintro e w3 ⟨rfl, hs3, ht3⟩
          have HS3 : Hid (St w w3 w.heap.size mz A1 c1 0 S1) := Lib.hid ⟨by omega, ⟨_, hs3, fun i hi => by omega⟩, ⟨Arr.nil, HS.out.arr.2⟩, bel_tch HS.out.bel ht3 (Nat.le_refl _)⟩
          clear HS hs3 ht3 hs2 he2
          have HS := HS3
          clear HS3
          obtain ⟨hle, ⟨S2, hs2, he2⟩, ⟨ha2, hc2, hc3, hn2, hg2⟩, hb2⟩ := HS.out
          have HA1 := Lib.hid ha2
          have hs1 := hs2
          have he1 := he2
          clear ha2 hn2 hg2 hb2 hs2 he2 g1 g2 gb
          go_wp2_with fail
          refine (top0 _ 0 mz _ _ hs1 rfl).mono ?_
          rintro e w5 ⟨rfl, hb5⟩
          go_wp2_with fail
          refine (lenS_any _ 0 mz _ _ (stkS_tch hs1 hb5) (by omega)).mono ?_
          rintro e w6 ⟨rfl, hb6⟩
          have hb56 := bel_trans hb5 hb6
          clear hb5 hb6
          go_wp2_with fail
          refine (all_any _ 0 mz _ _ (stkS_tch hs1 hb56) (by omega)).mono ?_
          rintro e w7 ⟨v7, rfl, ho7, hb7⟩
          obtain ⟨A7, c7, rfl, ha7, _⟩ := ho7.arr
          have hb67 := bel_trans hb56 hb7
          have ha7' := Arr.congr ha7 (fun i hi j hj => by show Value.string (S2 i) = Value.string (S1 i); rw [he1 i hi])
          have HA7 := Lib.hid ha7'
          clear ho7 ha7 ha7' hb56 hb7
          go_wp2_with fail
          refine (equalS_true A7 _ 0 c7 _ _ _ (by omega) HA7.out (Arr.below HA1.out hb67)).mono ?_
          rintro e w8 ⟨rfl, hb8⟩
          have HS8 := Lib.hid (HS.out.below (bel_trans hb67 hb8))
          clear hb67 hb8 HA7
          go_wp2
          go_roundw
          case rel => exact ⟨k + 1, 0, _, _, _, by omega, by go_num, rfl, HS8⟩
          case measure => simp [intOf]; omega
        · obtain ⟨r, hr⟩ : ∃ r, m = r + 1 := ⟨m - 1, by omega⟩
          obtain ⟨S2, hs2, he2⟩ := HS.out.stk
          obtain ⟨ha2, hc2, hc3, hn2, hg2⟩ := HS.out.arr
          have hx2 : S2 r = S1 r := he2 r (by omega)
          go_wp2_with fail
          refine (pop1 _ m mz r _ _ hs2 hr (by omega)).mono ?_
          rintro e w3 ⟨rfl, hs3, ht3⟩
          rw [hx2]
          have ha3 : Arr w3 A1 m 1 (SF S1) := arr_tch ha2 ht3 hg2
          have HS3 : Hid (St w w3 w.heap.size mz A1 c1 r S1) := Lib.hid ⟨by omega, ⟨_, hs3, fun i hi => by unfold updS; rw [if_neg (by omega)]; exact he2 i (by omega)⟩, ⟨ha3.take (by omega), by omega, hc3, fun h => by have := hn2 h; omega, hg2⟩, bel_tch HS.out.bel ht3 (Nat.le_refl _)⟩
          obtain ⟨b1, off1, hA1, q1, qb⟩ := SF_at ha3 r (by omega)
          subst hA1
          have er : (m : Int) - 1 = (r : Int) := by omega
          have hr1 : r < m := by omega
          have hrc : r ≤ c1 := by omega
          have hm0 : 0 < m := by omega
          clear HS hs3 ht3 hs2 he2 ha2 hn2 hg2 ha3 hx2 m0 hr
          have HS := HS3
          clear HS3
          go_wp2_with fail
          clear er hr1 hrc hm0 q1 qb hc2 hmz
          by_cases z0 : r = 0
          · subst z0
            obtain ⟨hle, ⟨S2, hs2, he2⟩, ⟨ha2, hc2, hc3, hn2, hg2⟩, hb2⟩ := HS.out
            have HA1 := Lib.hid ha2
            have hs1 := hs2
            have he1 := he2
            clear ha2 hn2 hg2 hb2 hs2 he2 g1 g2 gb
            go_wp2_with fail
            refine (top0 _ 0 mz _ _ hs1 rfl).mono ?_
            rintro e w5 ⟨rfl, hb5⟩
            go_wp2_with fail
            refine (lenS_any _ 0 mz _ _ (stkS_tch hs1 hb5) (by omega)).mono ?_
            rintro e w6 ⟨rfl, hb6⟩
            have hb56 := bel_trans hb5 hb6
            clear hb5 hb6
            go_wp2_with fail
            refine (all_any _ 0 mz _ _ (stkS_tch hs1 hb56) (by omega)).mono ?_
            rintro e w7 ⟨v7, rfl, ho7, hb7⟩
            obtain ⟨A7, c7, rfl, ha7, _⟩ := ho7.arr
            have hb67 := bel_trans hb56 hb7
            have ha7' := Arr.congr ha7 (fun i hi j hj => by show Value.string (S2 i) = Value.string (S1 i); rw [he1 i hi])
            have HA7 := Lib.hid ha7'
            clear ho7 ha7 ha7' hb56 hb7
            go_wp2_with fail
            refine (equalS_true A7 _ 0 c7 _ _ _ (by omega) HA7.out (Arr.below HA1.out hb67)).mono ?_
            rintro e w8 ⟨rfl, hb8⟩
            have HS8 := Lib.hid (HS.out.below (bel_trans hb67 hb8))
            clear hb67 hb8 HA7
            go_wp2
            go_roundw
            case rel => exact ⟨k + 1, 0, _, _, _, by omega, by go_num, rfl, HS8⟩
            case measure => simp [intOf]; omega
          · obtain ⟨t, ht⟩ : ∃ t, r = t + 1 := ⟨r - 1, by omega⟩
            have HR := Lib.hid ht
            clear ht z0
            obtain ⟨hle, ⟨S2, hs2, he2⟩, ⟨ha2, hc2, hc3, hn2, hg2⟩, hb2⟩ := HS.out
            have HA1 := Lib.hid ha2
            have hs1 := hs2
            have he1 := he2
            clear ha2 hn2 hg2 hb2 hs2 he2 g1 g2 gb
            go_wp2_with fail
            refine (top1 _ r mz t _ _ hs1 HR.out (by omega)).mono ?_
            rintro e w5 ⟨rfl, hb5⟩
            rw [he1 t (by have := HR.out; omega)]
            obtain ⟨b1, off1, hA1, q1, qb⟩ := SF_at (Arr.below HA1.out hb5) t (by have := HR.out; omega)
            first | subst hA1 | (simp only [Option.some.injEq, Addr.mk.injEq, and_true] at hA1; obtain ⟨rfl, rfl⟩ := hA1)
            have hr1 : t < r := by have := HR.out; omega
            have er : (r : Int) - 1 = (t : Int) := by have := HR.out; omega
            have hm0 : 0 < r := by have := HR.out; omega
            go_wp2_with fail
            refine (lenS_any _ r mz _ _ (stkS_tch hs1 hb5) (by omega)).mono ?_
            rintro e w6 ⟨rfl, hb6⟩
            have hb56 := bel_trans hb5 hb6
            clear hb5 hb6
            go_wp2_with fail
            refine (all_any _ r mz _ _ (stkS_tch hs1 hb56) (by omega)).mono ?_
            rintro e w7 ⟨v7, rfl, ho7, hb7⟩
            obtain ⟨A7, c7, rfl, ha7, _⟩ := ho7.arr
            have hb67 := bel_trans hb56 hb7
            have ha7' := Arr.congr ha7 (fun i hi j hj => by show Value.string (S2 i) = Value.string (S1 i); rw [he1 i hi])
            have HA7 := Lib.hid ha7'
            clear ho7 q1 qb ha7 ha7' hb56 hb7
            go_wp2_with fail
            refine (equalS_true A7 _ r c7 _ _ _ (by omega) HA7.out (Arr.below HA1.out hb67)).mono ?_
            rintro e w8 ⟨rfl, hb8⟩
            have HS8 := Lib.hid (HS.out.below (bel_trans hb67 hb8))
            clear hb67 hb8 HA7
            go_wp2
            go_roundw
            case rel => exact ⟨k + 1, r, _, _, _, by omega, by go_num, rfl, HS8⟩
            case measure => simp [intOf]; omega
      by_cases k4 : K k = 4
      · rw [k4] at g1
        have HK := Lib.hid k4
        clear k4
        by_cases m0 : m = 0
        · subst m0
          obtain ⟨S2, hs2, he2⟩ := HS.out.stk
          go_wp2_with fail
          refine (pop0 _ 0 mz _ _ hs2 rfl).mono ?_
          rintro e w3 ⟨rfl, hs3, ht3⟩
          have HS3 : Hid (St w w3 w.heap.size mz A1 c1 0 S1) := Lib.hid ⟨by omega, ⟨_, hs3, fun i hi => by omega⟩, ⟨Arr.nil, HS.out.arr.2⟩, bel_tch HS.out.bel ht3 (Nat.le_refl _)⟩
          clear HS hs3 ht3 hs2 he2
          have HS := HS3
          clear HS3
          obtain ⟨hle, ⟨S2, hs2, he2⟩, ⟨ha2, hc2, hc3, hn2, hg2⟩, hb2⟩ := HS.out
          have HA1 := Lib.hid ha2
          have hs1 := hs2
          have he1 := he2
          clear ha2 hn2 hg2 hb2 hs2 he2 g1 g2 gb
          go_wp2_with fail
          refine (top0 _ 0 mz _ _ hs1 rfl).mono ?_
          rintro e w5 ⟨rfl, hb5⟩
          go_wp2_with fail
          refine (lenS_any _ 0 mz _ _ (stkS_tch hs1 hb5) (by omega)).mono ?_
          rintro e w6 ⟨rfl, hb6⟩
          have hb56 := bel_trans hb5 hb6
          clear hb5 hb6
          go_wp2_with fail
          refine (all_any _ 0 mz _ _ (stkS_tch hs1 hb56) (by omega)).mono ?_
          rintro e w7 ⟨v7, rfl, ho7, hb7⟩
          obtain ⟨A7, c7, rfl, ha7, _⟩ := ho7.arr
          have hb67 := bel_trans hb56 hb7
          have ha7' := Arr.congr ha7 (fun i hi j hj => by show Value.string (S2 i) = Value.string (S1 i); rw [he1 i hi])
          have HA7 := Lib.hid ha7'
          clear ho7 ha7 ha7' hb56 hb7
          go_wp2_with fail
          refine (equalS_true A7 _ 0 c7 _ _ _ (by omega) HA7.out (Arr.below HA1.out hb67)).mono ?_
          rintro e w8 ⟨rfl, hb8⟩
          have HS8 := Lib.hid (HS.out.below (bel_trans hb67 hb8))
          clear hb67 hb8 HA7
          go_wp2
          go_roundw
          case rel => exact ⟨k + 1, 0, _, _, _, by omega, by go_num, rfl, HS8⟩
          case measure => simp [intOf]; omega
        · obtain ⟨r, hr⟩ : ∃ r, m = r + 1 := ⟨m - 1, by omega⟩
          obtain ⟨S2, hs2, he2⟩ := HS.out.stk
          obtain ⟨ha2, hc2, hc3, hn2, hg2⟩ := HS.out.arr
          have hx2 : S2 r = S1 r := he2 r (by omega)
          go_wp2_with fail
          refine (pop1 _ m mz r _ _ hs2 hr (by omega)).mono ?_
          rintro e w3 ⟨rfl, hs3, ht3⟩
          rw [hx2]
          have ha3 : Arr w3 A1 m 1 (SF S1) := arr_tch ha2 ht3 hg2
          have HS3 : Hid (St w w3 w.heap.size mz A1 c1 r S1) := Lib.hid ⟨by omega, ⟨_, hs3, fun i hi => by unfold updS; rw [if_neg (by omega)]; exact he2 i (by omega)⟩, ⟨ha3.take (by omega), by omega, hc3, fun h => by have := hn2 h; omega, hg2⟩, bel_tch HS.out.bel ht3 (Nat.le_refl _)⟩
          obtain ⟨b1, off1, hA1, q1, qb⟩ := SF_at ha3 r (by omega)
          subst hA1
          have er : (m : Int) - 1 = (r : Int) := by omega
          have hr1 : r < m := by omega
          have hrc : r ≤ c1 := by omega
          have hm0 : 0 < m := by omega
          clear HS hs3 ht3 hs2 he2 ha2 hn2 hg2 ha3 hx2 m0 hr
          have HS := HS3
          clear HS3
          go_wp2_with fail
          clear er hr1 hrc hm0 q1 qb hc2 hmz
          by_cases z0 : r = 0
          · subst z0
            obtain ⟨hle, ⟨S2, hs2, he2⟩, ⟨ha2, hc2, hc3, hn2, hg2⟩, hb2⟩ := HS.out
            have HA1 := Lib.hid ha2
            have hs1 := hs2
            have he1 := he2
            clear ha2 hn2 hg2 hb2 hs2 he2 g1 g2 gb
            go_wp2_with fail
            refine (top0 _ 0 mz _ _ hs1 rfl).mono ?_
            rintro e w5 ⟨rfl, hb5⟩
            go_wp2_with fail
            refine (lenS_any _ 0 mz _ _ (stkS_tch hs1 hb5) (by omega)).mono ?_
            rintro e w6 ⟨rfl, hb6⟩
            have hb56 := bel_trans hb5 hb6
            clear hb5 hb6
            go_wp2_with fail
            refine (all_any _ 0 mz _ _ (stkS_tch hs1 hb56) (by omega)).mono ?_
            rintro e w7 ⟨v7, rfl, ho7, hb7⟩
            obtain ⟨A7, c7, rfl, ha7, _⟩ := ho7.arr
            have hb67 := bel_trans hb56 hb7
            have ha7' := Arr.congr ha7 (fun i hi j hj => by show Value.string (S2 i) = Value.string (S1 i); rw [he1 i hi])
            have HA7 := Lib.hid ha7'
            clear ho7 ha7 ha7' hb56 hb7
            go_wp2_with fail
            refine (equalS_true A7 _ 0 c7 _ _ _ (by omega) HA7.out (Arr.below HA1.out hb67)).mono ?_
            rintro e w8 ⟨rfl, hb8⟩
            have HS8 := Lib.hid (HS.out.below (bel_trans hb67 hb8))
            clear hb67 hb8 HA7
            go_wp2
            go_roundw
            case rel => exact ⟨k + 1, 0, _, _, _, by omega, by go_num, rfl, HS8⟩
            case measure => simp [intOf]; omega
          · obtain ⟨t, ht⟩ : ∃ t, r = t + 1 := ⟨r - 1, by omega⟩
            have HR := Lib.hid ht
            clear ht z0
            obtain ⟨hle, ⟨S2, hs2, he2⟩, ⟨ha2, hc2, hc3, hn2, hg2⟩, hb2⟩ := HS.out
            have HA1 := Lib.hid ha2
            have hs1 := hs2
            have he1 := he2
            clear ha2 hn2 hg2 hb2 hs2 he2 g1 g2 gb
            go_wp2_with fail
            refine (top1 _ r mz t _ _ hs1 HR.out (by omega)).mono ?_
            rintro e w5 ⟨rfl, hb5⟩
            rw [he1 t (by have := HR.out; omega)]
            obtain ⟨b1, off1, hA1, q1, qb⟩ := SF_at (Arr.below HA1.out hb5) t (by have := HR.out; omega)
            first | subst hA1 | (simp only [Option.some.injEq, Addr.mk.injEq, and_true] at hA1; obtain ⟨rfl, rfl⟩ := hA1)
            have hr1 : t < r := by have := HR.out; omega
            have er : (r : Int) - 1 = (t : Int) := by have := HR.out; omega
            have hm0 : 0 < r := by have := HR.out; omega
            go_wp2_with fail
            refine (lenS_any _ r mz _ _ (stkS_tch hs1 hb5) (by omega)).mono ?_
            rintro e w6 ⟨rfl, hb6⟩
            have hb56 := bel_trans hb5 hb6
            clear hb5 hb6
            go_wp2_with fail
            refine (all_any _ r mz _ _ (stkS_tch hs1 hb56) (by omega)).mono ?_
            rintro e w7 ⟨v7, rfl, ho7, hb7⟩
            obtain ⟨A7, c7, rfl, ha7, _⟩ := ho7.arr
            have hb67 := bel_trans hb56 hb7
            have ha7' := Arr.congr ha7 (fun i hi j hj => by show Value.string (S2 i) = Value.string (S1 i); rw [he1 i hi])
            have HA7 := Lib.hid ha7'
            clear ho7 q1 qb ha7 ha7' hb56 hb7
            go_wp2_with fail
            refine (equalS_true A7 _ r c7 _ _ _ (by omega) HA7.out (Arr.below HA1.out hb67)).mono ?_
            rintro e w8 ⟨rfl, hb8⟩
            have HS8 := Lib.hid (HS.out.below (bel_trans hb67 hb8))
            clear hb67 hb8 HA7
            go_wp2
            go_roundw
            case rel => exact ⟨k + 1, r, _, _, _, by omega, by go_num, rfl, HS8⟩
            case measure => simp [intOf]; omega
      by_cases k5 : K k = 5
      · rw [k5] at g1
        have HK := Lib.hid k5
        clear k5
        obtain ⟨S2, hs2, he2⟩ := HS.out.stk
        go_wp2_with fail
        refine (clear_any _ m mz _ _ hs2).mono ?_
        rintro e w3 ⟨rfl, hs3, ht3⟩
        have HS3 : Hid (St w w3 w.heap.size mz none 0 0 S1) := Lib.hid ⟨by omega, ⟨_, hs3, fun i hi => by omega⟩, ⟨Arr.nil, Nat.le_refl _, by unfold maxLen; omega, fun _ => ⟨rfl, rfl⟩, fun a ha => by cases ha⟩, bel_tch HS.out.bel ht3 (Nat.le_refl _)⟩
        clear HS hs3 ht3 hs2 he2
        have HS := HS3
        clear HS3
        obtain ⟨hle, ⟨S2, hs2, he2⟩, ⟨ha2, hc2, hc3, hn2, hg2⟩, hb2⟩ := HS.out
        have HA1 := Lib.hid ha2
        have hs1 := hs2
        have he1 := he2
        clear ha2 hn2 hg2 hb2 hs2 he2 g1 g2 gb
        go_wp2_with fail
        refine (top0 _ 0 mz _ _ hs1 rfl).mono ?_
        rintro e w5 ⟨rfl, hb5⟩
        go_wp2_with fail
        refine (lenS_any _ 0 mz _ _ (stkS_tch hs1 hb5) (by omega)).mono ?_
        rintro e w6 ⟨rfl, hb6⟩
        have hb56 := bel_trans hb5 hb6
        clear hb5 hb6
        go_wp2_with fail
        refine (all_any _ 0 mz _ _ (stkS_tch hs1 hb56) (by omega)).mono ?_
        rintro e w7 ⟨v7, rfl, ho7, hb7⟩
        obtain ⟨A7, c7, rfl, ha7, _⟩ := ho7.arr
        have hb67 := bel_trans hb56 hb7
        have ha7' := Arr.congr ha7 (fun i hi j hj => by show Value.string (S2 i) = Value.string (S1 i); rw [he1 i hi])
        have HA7 := Lib.hid ha7'
        clear ho7 ha7 ha7' hb56 hb7
        go_wp2_with fail
        refine (equalS_true A7 _ 0 c7 _ _ _ (by omega) HA7.out (Arr.below HA1.out hb67)).mono ?_
        rintro e w8 ⟨rfl, hb8⟩
        have HS8 := Lib.hid (HS.out.below (bel_trans hb67 hb8))
        clear hb67 hb8 HA7
        go_wp2
        go_roundw
        case rel => exact ⟨k + 1, 0, _, _, _, by omega, by go_num, rfl, HS8⟩
        case measure => simp [intOf]; omega
      · have d3 : (K k == 3) = false := by simpa using k3
        have d4 : (K k == 4) = false := by simpa using k4
        have d5 : (K k == 5) = false := by simpa using k5
        have HK := Lib.hid k5
        clear k3 k4 k5
        obtain ⟨S2, hs2, he2⟩ := HS.out.stk
        by_cases mm : m = mz
        · have dm : decide (m < mz) = false := by simp; omega
          go_wp2_with fail
          refine (pushS_full _ _ m mz _ _ hs2 mm (by omega)).mono ?_
          rintro e w3 ⟨rfl, hs3, ht3⟩
          obtain ⟨ha2, hc2, hc3, hn2, hg2⟩ := HS.out.arr
          have HS3 : Hid (St w w3 w.heap.size mz A1 c1 m S1) := Lib.hid ⟨by omega, ⟨_, hs3, he2⟩, ⟨arr_tch ha2 ht3 hg2, hc2, hc3, hn2, hg2⟩, bel_tch HS.out.bel ht3 (Nat.le_refl _)⟩
          clear HS hs3 ht3 hs2 he2 ha2 hc2 hn2 hg2 mm
          have HS := HS3
          clear HS3
          go_wp2_with fail
          clear dm d3 d4 d5
          by_cases z0 : m = 0
          · subst z0
            obtain ⟨hle, ⟨S2, hs2, he2⟩, ⟨ha2, hc2, hc3, hn2, hg2⟩, hb2⟩ := HS.out
            have HA1 := Lib.hid ha2
            have hs1 := hs2
            have he1 := he2
            clear ha2 hn2 hg2 hb2 hs2 he2 g1 g2 gb
            go_wp2_with fail
            refine (top0 _ 0 mz _ _ hs1 rfl).mono ?_
            rintro e w5 ⟨rfl, hb5⟩
            go_wp2_with fail
            refine (lenS_any _ 0 mz _ _ (stkS_tch hs1 hb5) (by omega)).mono ?_
            rintro e w6 ⟨rfl, hb6⟩
            have hb56 := bel_trans hb5 hb6
            clear hb5 hb6
            go_wp2_with fail
            refine (all_any _ 0 mz _ _ (stkS_tch hs1 hb56) (by omega)).mono ?_
            rintro e w7 ⟨v7, rfl, ho7, hb7⟩
            obtain ⟨A7, c7, rfl, ha7, _⟩ := ho7.arr
            have hb67 := bel_trans hb56 hb7
            have ha7' := Arr.congr ha7 (fun i hi j hj => by show Value.string (S2 i) = Value.string (S1 i); rw [he1 i hi])
            have HA7 := Lib.hid ha7'
            clear ho7 ha7 ha7' hb56 hb7
            go_wp2_with fail
            refine (equalS_true A7 _ 0 c7 _ _ _ (by omega) HA7.out (Arr.below HA1.out hb67)).mono ?_
            rintro e w8 ⟨rfl, hb8⟩
            have HS8 := Lib.hid (HS.out.below (bel_trans hb67 hb8))
            clear hb67 hb8 HA7
            go_wp2
            go_roundw
            case rel => exact ⟨k + 1, 0, _, _, _, by omega, by go_num, rfl, HS8⟩
            case measure => simp [intOf]; omega
          · obtain ⟨t, ht⟩ : ∃ t, m = t + 1 := ⟨m - 1, by omega⟩
            have HR := Lib.hid ht
            clear ht z0
            obtain ⟨hle, ⟨S2, hs2, he2⟩, ⟨ha2, hc2, hc3, hn2, hg2⟩, hb2⟩ := HS.out
            have HA1 := Lib.hid ha2
            have hs1 := hs2
            have he1 := he2
            clear ha2 hn2 hg2 hb2 hs2 he2 g1 g2 gb
            go_wp2_with fail
            refine (top1 _ m mz t _ _ hs1 HR.out (by omega)).mono ?_
            rintro e w5 ⟨rfl, hb5⟩
            rw [he1 t (by have := HR.out; omega)]
            obtain ⟨b1, off1, hA1, q1, qb⟩ := SF_at (Arr.below HA1.out hb5) t (by have := HR.out; omega)
            first | subst hA1 | (simp only [Option.some.injEq, Addr.mk.injEq, and_true] at hA1; obtain ⟨rfl, rfl⟩ := hA1)
            have hr1 : t < m := by have := HR.out; omega
            have er : (m : Int) - 1 = (t : Int) := by have := HR.out; omega
            have hm0 : 0 < m := by have := HR.out; omega
            go_wp2_with fail
            refine (lenS_any _ m mz _ _ (stkS_tch hs1 hb5) (by omega)).mono ?_
            rintro e w6 ⟨rfl, hb6⟩
            have hb56 := bel_trans hb5 hb6
            clear hb5 hb6
            go_wp2_with fail
            refine (all_any _ m mz _ _ (stkS_tch hs1 hb56) (by omega)).mono ?_
            rintro e w7 ⟨v7, rfl, ho7, hb7⟩
            obtain ⟨A7, c7, rfl, ha7, _⟩ := ho7.arr
            have hb67 := bel_trans hb56 hb7
            have ha7' := Arr.congr ha7 (fun i hi j hj => by show Value.string (S2 i) = Value.string (S1 i); rw [he1 i hi])
            have HA7 := Lib.hid ha7'
            clear ho7 q1 qb ha7 ha7' hb56 hb7
            go_wp2_with fail
            refine (equalS_true A7 _ m c7 _ _ _ (by omega) HA7.out (Arr.below HA1.out hb67)).mono ?_
            rintro e w8 ⟨rfl, hb8⟩
            have HS8 := Lib.hid (HS.out.below (bel_trans hb67 hb8))
            clear hb67 hb8 HA7
            go_wp2
            go_roundw
            case rel => exact ⟨k + 1, m, _, _, _, by omega, by go_num, rfl, HS8⟩
            case measure => simp [intOf]; omega
        · have mm' : m < mz := by omega
          have dm : decide (m < mz) = true := by simp; omega
          go_wp2_with fail
          refine (pushS_more _ _ m mz _ _ hs2 mm' (by omega)).mono ?_
          rintro e w3 ⟨rfl, hs3, ht3⟩
          obtain ⟨ha2, hc2, hc3, hn2, hg2⟩ := HS.out.arr
          have hbw : Below w.heap.size w w3 := bel_tch HS.out.bel ht3 (Nat.le_refl _)
          have ha3 := arr_tch ha2 ht3 hg2
          obtain ⟨b0, off0, hA, g1, g2, gb⟩ := OF_at (Arr.below H.out hbw) k hlt
          simp only [Option.some.injEq, Addr.mk.injEq, and_true] at hA
          obtain ⟨rfl, rfl⟩ := hA
          have HA3 := Lib.hid ha3
          clear ha3 ha2
          have hg3 : w.heap.size < w3.heap.size := hs3.lt
          have hAn : A1 = none → m = 0 := fun h => (hn2 h).1
          have hbs := hbw.size
          have HN2 := Lib.hid hn2
          clear hn2
          go_wp2
          go_region_held3 (fun w' => w'.cell? ⟨b, off + k * 2 + 1, none⟩ = some (.string (X k))) (first | exact g2 | exact keep_below (by repeat (first | assumption | exact Below.refl _ _ | refine bel_alloc ?_ _ | refine bel_drewN ?_ _ | refine bel_drew ?_ | refine bel_trans ?_ (by assumption))) _ _ g2) (first | (go_at_call 47; refine (clone_any A1 m c1 S1 _ (by omega) hAn (by first | exact HA3.out | exact Arr.below HA3.out (by repeat (first | assumption | exact Below.refl _ _ | refine bel_alloc ?_ _ | refine bel_drewN ?_ _ | refine bel_drew ?_ | refine bel_trans ?_ (by assumption))))).mono ?_; rintro e w4 ⟨v4, rfl, ho4, hb4⟩) | (refine step_append_arr _ rfl (.tmp 51) (.tmp 57) 65 rfl _ 9 i0 (.string ⟨#[]⟩) 1 16 Try.underlying65 hi hz0 hz1 hz2 rfl (by decide) _ _ _ rfl (ho4.alloc _) _ 1 1 _ rfl (arr_new1 _ _ _ _ (by simp)) (by intro _ _ _ _; rfl) (by unfold maxLen; omega) (by omega) (by have := hb4.size; simp at this ⊢; omega) ?_; intro v5 w5 hown5 hgrow5 hfr5; have HB5 : Below w3.heap.size w3 w5 := bel_own2 (by repeat (first | assumption | exact Below.refl _ _ | refine bel_alloc ?_ _ | refine bel_drewN ?_ _ | refine bel_drew ?_ | refine bel_trans ?_ (by assumption))) (ho4.alloc _) (by simp) hgrow5; have HX : ∃ base, w3.heap.size ≤ base ∧ Own w5 base 9 1 v5 (m + 1) (cat m (SF S1) (fun _ _ => .string (X k))) := ⟨_, (by have := hb4.size; simp at this ⊢), hown5⟩; clear hown5 hgrow5 hfr5) | (refine step_append_arr _ rfl (.tmp 51) (.tmp 57) 65 rfl _ 9 i0 (.string ⟨#[]⟩) 1 16 Try.underlying65 hi hz0 hz1 hz2 rfl (by decide) _ _ _ rfl ho4 _ 1 1 _ rfl (Arr.below (Arr.below (arr_new1 _ _ _ _ rfl) (bel_drew (Below.refl _ _))) hb4) (by intro _ _ _ _; rfl) (by unfold maxLen; omega) (by omega) (by have := hb4.size; simp at this ⊢; omega) ?_; intro v5 w5 hown5 hgrow5 hfr5; have HB5 : Below w3.heap.size w3 w5 := bel_own2 (by repeat (first | assumption | exact Below.refl _ _ | refine bel_alloc ?_ _ | refine bel_drewN ?_ _ | refine bel_drew ?_ | refine bel_trans ?_ (by assumption))) ho4 (by simp) hgrow5; have HX : ∃ base, w3.heap.size ≤ base ∧ Own w5 base 9 1 v5 (m + 1) (cat m (SF S1) (fun _ _ => .string (X k))) := ⟨_, (by have := hb4.size; simp at this ⊢), hown5⟩; clear hown5 hgrow5 hfr5))
          all_goals
            obtain ⟨base, hbase, hown⟩ := HX
            obtain ⟨A5, c5, rfl, ha5, hc5, hc5', hn5, hbk5⟩ := hown.arr
            have hnn5 : A5 = none → m + 1 = 0 ∧ c5 = 0 := fun h => by
              obtain ⟨_, _, e, _⟩ := ha5 (by omega)
              rw [h] at e
              cases e
            have HS5 : Hid (St w w5 w.heap.size mz A5 c5 (m + 1) (updS S1 m (X k))) := Lib.hid ⟨by omega, ⟨_, stkS_tch hs3 HB5, fun i hi => by
                unfold updS
                by_cases hi' : i = m
                · rw [if_pos hi', if_pos hi']
                · rw [if_neg hi', if_neg hi']; exact he2 i (by omega)⟩, ⟨Arr.congr ha5 (fun i hi j hj => by
                unfold cat SF updS
                by_cases hi' : i < m
                · rw [if_pos hi', if_neg (by omega)]
                · rw [if_neg hi', if_pos (by omega)]), hc5, hc5', hnn5, fun a ha => by have := hbk5 a ha; omega⟩, bel_trans hbw HB5⟩
            clear HS hs2 hs3 he2 ht3 hbw HA3 HB5 hbase hown ha5 hn5 hnn5 hbk5 hAn hbs HN2 hc2 hc3 dm d3 d4 d5 hg3 mm
            have HS := HS5
            clear HS5
            generalize hm5 : m + 1 = m5 at *
            generalize updS S1 m (X k) = S5 at *
            have HR : Hid (m5 = m + 1) := Lib.hid hm5.symm
            clear hm5
            go_wp2_with fail
            obtain ⟨hle, ⟨S2, hs2, he2⟩, ⟨ha2, hc2, hc3, hn2, hg2⟩, hb2⟩ := HS.out
            have HA1 := Lib.hid ha2
            have hs1 := hs2
            have he1 := he2
            clear ha2 hn2 hg2 hb2 hs2 he2
            go_wp2_with fail
            refine (top1 _ m5 mz m _ _ hs1 HR.out (by omega)).mono ?_
            rintro e w5 ⟨rfl, hb5⟩
            rw [he1 m (by have := HR.out; omega)]
            obtain ⟨b1, off1, hA1, q1, qb⟩ := SF_at (Arr.below HA1.out hb5) m (by have := HR.out; omega)
            first | subst hA1 | (simp only [Option.some.injEq, Addr.mk.injEq, and_true] at hA1; obtain ⟨rfl, rfl⟩ := hA1)
            have hr1 : m < m5 := by have := HR.out; omega
            have er : (m5 : Int) - 1 = (m : Int) := by have := HR.out; omega
            have hm0 : 0 < m5 := by have := HR.out; omega
            go_wp2_with fail
            refine (lenS_any _ m5 mz _ _ (stkS_tch hs1 hb5) (by omega)).mono ?_
            rintro e w6 ⟨rfl, hb6⟩
            have hb56 := bel_trans hb5 hb6
            clear hb5 hb6
            go_wp2_with fail
            refine (all_any _ m5 mz _ _ (stkS_tch hs1 hb56) (by omega)).mono ?_
            rintro e w7 ⟨v7, rfl, ho7, hb7⟩
            obtain ⟨A7, c7, rfl, ha7, _⟩ := ho7.arr
            have hb67 := bel_trans hb56 hb7
            have ha7' := Arr.congr ha7 (fun i hi j hj => by show Value.string (S2 i) = Value.string (S5 i); rw [he1 i hi])
            have HA7 := Lib.hid ha7'
            clear ho7 q1 qb ha7 ha7' hb56 hb7
            go_wp2_with fail
            refine (equalS_true A7 _ m5 c7 _ _ _ (by omega) HA7.out (Arr.below HA1.out hb67)).mono ?_
            rintro e w8 ⟨rfl, hb8⟩
            have HS8 := Lib.hid (HS.out.below (bel_trans hb67 hb8))
            clear hb67 hb8 HA7
            go_wp2
            go_roundw
            case rel => exact ⟨k + 1, m5, _, _, _, by omega, by go_num, rfl, HS8⟩
            case measure => simp [intOf]; omega
    · go_wp2_with fail
      refine (alive_any _).mono ?_
      rintro e w9 ⟨rfl, hb9⟩
      have hb := bel_trans HS.out.bel hb9
      clear hb9
      go_wp2
      go_ret
      exact ⟨rfl, (by repeat (first | assumption | exact Below.refl _ _ | refine bel_alloc ?_ _ | refine bel_drewN ?_ _ | refine bel_drew ?_ | refine bel_trans ?_ (by assumption)))⟩
end Go.Proofs.Ytobecmablabmeaa.Stack
