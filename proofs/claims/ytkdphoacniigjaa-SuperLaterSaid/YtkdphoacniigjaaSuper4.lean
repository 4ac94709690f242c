/- super.Get: what a sector is as a superblock. -/
import Derived.Test.YtkdphoacniigjaaSuper3
import Derived.Laws.ResultCell
namespace Go.Proofs.Ytkdphoacniigjaa.Super
open Go.RowKit Mem Bytes Fix Reader
set_option linter.unusedVariables false
set_option linter.unusedSimpArgs false
/-! ### the numbers of a body, one behind the other -/
def chL (B : List Int) : Nat → List Int
  | 0 => B
  | i + 1 => rs (chL B i) (szf i)
def chB (B : List Int) : Nat → Bool
  | 0 => false
  | i + 1 => rb (chL B i) (chB B i) (szf i)
def chV (B : List Int) (i : Nat) : Int := num (tk (chL B i) (szf i))
def blf : Nat → Nat
  | 0 => 0
  | i + 1 => blf i + szf i
theorem ch_inv (B : List Int) (i : Nat) : (chB B i = true ∧ chL B i = [] ∧ B.length < blf i) ∨ (chB B i = false ∧ chL B i = B.drop (blf i) ∧ blf i ≤ B.length) := by
  induction i with
  | zero => right; exact ⟨rfl, by simp [chL, blf], by simp [blf]⟩
  | succ i ih =>
    have hp : 0 < szf i := by unfold szf; split <;> omega
    show (rb (chL B i) (chB B i) (szf i) = true ∧ rs (chL B i) (szf i) = [] ∧ B.length < blf i + szf i) ∨ (rb (chL B i) (chB B i) (szf i) = false ∧ rs (chL B i) (szf i) = B.drop (blf i + szf i) ∧ blf i + szf i ≤ B.length)
    rcases ih with ⟨h1, h2, h3⟩ | ⟨h1, h2, h3⟩
    · left
      rw [h2]
      refine ⟨by unfold rb; rw [if_neg (by simp; omega)], by unfold rs; rw [if_neg (by simp; omega)], by omega⟩
    · rw [h2]
      by_cases hl : szf i ≤ (B.drop (blf i)).length
      · right
        refine ⟨by unfold rb; rw [if_pos hl, h1], by unfold rs; rw [if_pos hl, List.drop_drop], ?_⟩
        rw [List.length_drop] at hl; omega
      · left
        refine ⟨by unfold rb; rw [if_neg hl], by unfold rs; rw [if_neg hl], ?_⟩
        rw [List.length_drop] at hl; omega
theorem blf13 : blf 13 = 84 := by decide
theorem ch_end (B : List Int) : (if chB B 13 = true then (20 : Int) else if 0 < (chL B 13).length then 21 else 0) = 0 ↔ B.length = 84 := by
  rcases ch_inv B 13 with ⟨h1, h2, h3⟩ | ⟨h1, h2, h3⟩
  · rw [blf13] at h3
    rw [h1, if_pos rfl]
    constructor
    · intro h; omega
    · intro h; omega
  · rw [blf13] at h2 h3
    rw [h1, h2, List.length_drop, if_neg (by simp)]
    constructor
    · intro h
      by_cases hl : 0 < B.length - 84
      · rw [if_pos hl] at h; omega
      · omega
    · intro h
      rw [if_neg (by omega)]
theorem blf_mono (i j : Nat) (h : i ≤ j) : blf i ≤ blf j := by
  induction j with
  | zero => obtain rfl : i = 0 := by omega
            exact Nat.le_refl _
  | succ j ih =>
    rcases Nat.lt_or_ge j i with h' | h'
    · obtain rfl : i = j + 1 := by omega
      exact Nat.le_refl _
    · exact Nat.le_trans (ih h') (Nat.le_add_right _ _)
theorem ch_val {B : List Int} (h : B.length = 84) (i : Nat) (hi : i < 13) : chV B i = num ((B.drop (blf i)).take (szf i)) := by
  have hm : blf (i + 1) ≤ 84 := blf13 ▸ blf_mono (i + 1) 13 (by omega)
  have he : blf (i + 1) = blf i + szf i := rfl
  unfold chV tk
  rcases ch_inv B i with ⟨_, _, h3⟩ | ⟨_, h2, _⟩
  · omega
  · rw [h2, if_pos (by rw [List.length_drop]; omega)]
theorem chL_isB {B : List Int} (h : IsB B) (i : Nat) : IsB (chL B i) := by
  induction i with
  | zero => exact h
  | succ i ih => exact rs_isB ih _
theorem chL_len {B : List Int} (i : Nat) : (chL B i).length ≤ B.length := by
  induction i with
  | zero => exact Nat.le_refl _
  | succ i ih => exact Nat.le_trans (rs_len _ _) ih
theorem ch_bd {B : List Int} (h : IsB B) : BdS (chV B) := by
  have h8 : ∀ i, szf i = 8 → 0 ≤ chV B i ∧ chV B i ≤ 18446744073709551615 := fun i hi => by
    have h1 := (num_bd (tk_isB (chL_isB h i) (szf i))).1
    have h2 : chV B i < 18446744073709551616 := by unfold chV; rw [hi]; exact tk_lt (chL_isB h i) 8 _ (by decide) (by decide)
    exact ⟨h1, by omega⟩
  have h4 : ∀ i, szf i = 4 → 0 ≤ chV B i ∧ chV B i ≤ 4294967295 := fun i hi => by
    have h1 := (num_bd (tk_isB (chL_isB h i) (szf i))).1
    have h2 : chV B i < 4294967296 := by unfold chV; rw [hi]; exact tk_lt (chL_isB h i) 4 _ (by decide) (by decide)
    exact ⟨h1, by omega⟩
  exact ⟨h8 0 rfl, h8 1 rfl, h8 2 rfl, h8 3 rfl, h4 4 rfl, h4 5 rfl, h4 6 rfl, h8 9 rfl, h8 10 rfl, h8 11 rfl, h8 12 rfl⟩
theorem of_bytes {L : List Int} (h : IsB L) (k : Int) : IsB (Page.ofR k (Page.getS L)).1 ∧ (Page.ofR k (Page.getS L)).1.length ≤ L.length := by
  have hb : ∀ n, IsB (Page.body L n) ∧ (Page.body L n).length ≤ L.length := fun n => ⟨Page.body_isB h, by unfold Page.body; rw [List.length_take, List.length_drop]; omega⟩
  have hg : IsB (Page.getS L).2.1 ∧ (Page.getS L).2.1.length ≤ L.length := by
    unfold Page.getS
    repeat' split
    all_goals first | exact ⟨IsB.nil, Nat.zero_le _⟩ | exact hb _
  unfold Page.ofR
  repeat' split
  all_goals first | exact ⟨IsB.nil, Nat.zero_le _⟩ | exact hg
/-- What super.Get tells. -/
noncomputable def supR (r : List Int × Int) : (Nat → Int) × Int :=
  open Classical in if r.2 ≠ 0 then (fun _ => 0, r.2) else if r.1.length ≠ 84 ∨ ¬ RightS (chV r.1) then (fun _ => 0, 21) else (chV r.1, 0)
def SupRes (w w' : World) (e : Ending) (r : (Nat → Int) × Int) : Prop := e = .returned (.tuple #[.agg #[.int .u64 (r.1 0), .int .u64 (r.1 1), .int .u64 (r.1 2), .int .u64 (r.1 3), .int .u32 (r.1 4), .int .u32 (r.1 5), .int .u32 (r.1 6), .int .i64 (r.1 7), .int .i64 (r.1 8), .int .u64 (r.1 9), .int .u64 (r.1 10), .int .u64 (r.1 11), .int .u64 (r.1 12)], .int .i64 r.2]) ∧ Below w.heap.size w w'
theorem supRes_mk {w w' : World} {e : Ending} (S : Nat → Int) (code : Int) (h : e = .returned (.tuple #[.agg #[.int .u64 (S 0), .int .u64 (S 1), .int .u64 (S 2), .int .u64 (S 3), .int .u32 (S 4), .int .u32 (S 5), .int .u32 (S 6), .int .i64 (S 7), .int .i64 (S 8), .int .u64 (S 9), .int .u64 (S 10), .int .u64 (S 11), .int .u64 (S 12)], .int .i64 code])) (hb : Below w.heap.size w w') : SupRes w w' e (S, code) := ⟨h, hb⟩
theorem info_super : (Try.prog.info? 54).map (·.size) = some 13 := by kernel_rfl
theorem results_cell2 {fn : Func} {a u : Tmp} {t : TypeId} (h : fn.results = #[.cell a t, .tmp u]) (tmps : Array Value) (P : Program) (w : World) (g : Nat) (ha : tmps.getD a undef = .pointer (some ⟨g, 0, none⟩)) (v : Value) (hl : (loadVar t ⟨g, 0, none⟩).run P w = .ok v w) :
    (results fn tmps).run P w = .ok (.tuple #[v, tmps.getD u undef]) w := by
  rw [results_cell_tmp h, ha]
  simp [asAddr, hl, Result.andThen]
theorem blk_tch {w w' : World} {g b : Nat} {cs : Array Value} {t : TypeId} (h : Blk w b cs t) (k : Tch w w' g) (hne : b ≠ g) : Blk w' b cs t := (k.block b h.lt (by intro e; injection e with e; exact hne e)).trans h
set_option maxRecDepth 100000 in
set_option maxHeartbeats 1000000 in
theorem end_b (g n : Nat) (bad : Bool) (w : World) (h : ∃ A c, Blk w g #[.slice A n c, .bool bad] 115) :
    Calls Try.prog 73 #[.pointer (some ⟨g, 0, none⟩)] w fun e w' => e = .returned (.int .i64 (if bad = true then 20 else if 0 < n then 21 else 0)) ∧ w = w' := by
  obtain ⟨A, c, hB⟩ := h
  obtain ⟨kc, kf, kz⟩ := hB.facts
  clear hB
  rcases bad with _ | _
  · by_cases h0 : 0 < n
    · rw [if_neg (by simp), if_pos h0]
      go_enter Try.func73, Try.ntmps73
      go_wp2
      go_ret
      exact ⟨rfl, rfl⟩
    · rw [if_neg (by simp), if_neg h0]
      have h0' : ¬ (0 : Int) < (n : Int) := by omega
      go_enter Try.func73, Try.ntmps73
      go_wp2
      go_ret
      exact ⟨rfl, rfl⟩
  · rw [if_pos rfl]
    go_enter Try.func73, Try.ntmps73
    go_wp2
    go_ret
    exact ⟨rfl, rfl⟩
set_option maxRecDepth 100000 in
set_option maxHeartbeats 6000000 in
theorem sget_any (A : Option Addr) (m c : Nat) (L : List Int) (w : World) (hm : m = L.length) (hc : m ≤ c) (h : BS w A L) (hB : IsB L) (hm9 : m ≤ 100000) :
    Calls Try.prog 34 #[.slice A m c] w fun e w' => SupRes w w' e (supR (Page.ofR 1 (Page.getS L))) := by
  have H := Lib.hid h
  have HM := Lib.hid hm
  clear h hm
  have HOL := Lib.hid (of_bytes hB 1)
  go_enter Try.func34, Try.ntmps34
  go_wp2_with fail
  refine (Page.of_any' 1 A m c L _ HM.out hc (by exact Sl.alloc H.out _) hB).mono ?_
  rintro e w1 ⟨A1, n1, c1, hn1, rfl, hs1, hc1, hA1, hb1⟩
  generalize hr0 : Page.ofR 1 (Page.getS L) = r at *
  have HR0 := Lib.hid hr0
  clear hr0
  obtain ⟨B, code⟩ := r
  have HN := Lib.hid hn1
  have HS := Lib.hid hs1
  have HA := Lib.hid hA1
  have HB1 : Below w.heap.size w w1 := bel_trans (by repeat (first | assumption | exact Below.refl _ _ | refine bel_alloc ?_ _ | refine bel_drewN ?_ _ | refine bel_drew ?_ | refine bel_set ?_ (by first | (simp; done) | omega | (simp; omega)) _ | refine bel_trans ?_ (by assumption))) hb1
  have BZ1 : Hid (Blk w1 w.heap.size #[.int .u64 0, .int .u64 0, .int .u64 0, .int .u64 0, .int .u32 0, .int .u32 0, .int .u32 0, .int .i64 0, .int .i64 0, .int .u64 0, .int .u64 0, .int .u64 0, .int .u64 0] 54) := Lib.hid ((Blk.new _ _ _ _ rfl).below hb1)
  clear hn1 hs1 hA1 hb1
  by_cases c0 : code = 0
  · subst c0
    have HBI : Hid (IsB B) := Lib.hid HOL.out.1
    have hBl : B.length ≤ 100000 := by have h2 : B.length ≤ L.length := HOL.out.2; have := HM.out; omega
    clear HOL
    have d0 : (0 : Int) ≤ 0 := by omega
    go_wp2_with fail
    refine (new_any A1 n1 c1 B _ HN.out hc1 HA.out (by exact HS.out)).mono ?_
    rintro e y0 ⟨rfl, hr, hb⟩
    have HR0' : Hid (Rd y0 w1.heap.size (chL B 0) (chB B 0)) := Lib.hid hr
    have HY0 : Below w.heap.size w y0 := bel_trans HB1 hb
    have BZ0 := Lib.hid (BZ1.out.below hb)
    have hgw : w.heap.size < w1.heap.size := BZ1.out.lt
    clear hr hb BZ1 HS HB1
    generalize w1.heap.size = g at *
    go_wp2_with fail
    refine (u64_any g (chL B 0) (chB B 0) _ (by have := chL_len (B := B) 0; omega) (chL_isB HBI.out 0) (by exact HR0'.out)).mono ?_
    rintro e y1 ⟨rfl, hr, ht⟩
    have HR1' : Hid (Rd y1 g (chL B 1) (chB B 1)) := Lib.hid hr
    have HY1 : Below w.heap.size w y1 := bel_tch HY0 ht (by omega)
    have BZ1 := Lib.hid (blk_tch BZ0.out ht (by omega))
    have nq0 := (num_bd (tk_isB (chL_isB HBI.out 0) 8)).1
    generalize hq : num (tk (chL B 0) 8) = q0 at *
    have HQ0 : Hid (chV B 0 = q0) := Lib.hid hq
    clear hq hr ht HR0' HY0 BZ0
    go_wp2_with fail
    refine (u64_any g (chL B 1) (chB B 1) _ (by have := chL_len (B := B) 1; omega) (chL_isB HBI.out 1) (by exact HR1'.out)).mono ?_
    rintro e y2 ⟨rfl, hr, ht⟩
    have HR2' : Hid (Rd y2 g (chL B 2) (chB B 2)) := Lib.hid hr
    have HY2 : Below w.heap.size w y2 := bel_tch HY1 ht (by omega)
    have BZ2 := Lib.hid (blk_tch BZ1.out ht (by omega))
    have nq1 := (num_bd (tk_isB (chL_isB HBI.out 1) 8)).1
    generalize hq : num (tk (chL B 1) 8) = q1 at *
    have HQ1 : Hid (chV B 1 = q1) := Lib.hid hq
    clear hq hr ht HR1' HY1 BZ1
    go_wp2_with fail
    refine (u64_any g (chL B 2) (chB B 2) _ (by have := chL_len (B := B) 2; omega) (chL_isB HBI.out 2) (by exact HR2'.out)).mono ?_
    rintro e y3 ⟨rfl, hr, ht⟩
    have HR3' : Hid (Rd y3 g (chL B 3) (chB B 3)) := Lib.hid hr
    have HY3 : Below w.heap.size w y3 := bel_tch HY2 ht (by omega)
    have BZ3 := Lib.hid (blk_tch BZ2.out ht (by omega))
    have nq2 := (num_bd (tk_isB (chL_isB HBI.out 2) 8)).1
    generalize hq : num (tk (chL B 2) 8) = q2 at *
    have HQ2 : Hid (chV B 2 = q2) := Lib.hid hq
    clear hq hr ht HR2' HY2 BZ2
    go_wp2_with fail
    refine (u64_any g (chL B 3) (chB B 3) _ (by have := chL_len (B := B) 3; omega) (chL_isB HBI.out 3) (by exact HR3'.out)).mono ?_
    rintro e y4 ⟨rfl, hr, ht⟩
    have HR4' : Hid (Rd y4 g (chL B 4) (chB B 4)) := Lib.hid hr
    have HY4 : Below w.heap.size w y4 := bel_tch HY3 ht (by omega)
    have BZ4 := Lib.hid (blk_tch BZ3.out ht (by omega))
    have nq3 := (num_bd (tk_isB (chL_isB HBI.out 3) 8)).1
    generalize hq : num (tk (chL B 3) 8) = q3 at *
    have HQ3 : Hid (chV B 3 = q3) := Lib.hid hq
    clear hq hr ht HR3' HY3 BZ3
    go_wp2_with fail
    refine (u32_any g (chL B 4) (chB B 4) _ (by have := chL_len (B := B) 4; omega) (chL_isB HBI.out 4) (by exact HR4'.out)).mono ?_
    rintro e y5 ⟨rfl, hr, ht⟩
    have HR5' : Hid (Rd y5 g (chL B 5) (chB B 5)) := Lib.hid hr
    have HY5 : Below w.heap.size w y5 := bel_tch HY4 ht (by omega)
    have BZ5 := Lib.hid (blk_tch BZ4.out ht (by omega))
    have nq4 := (num_bd (tk_isB (chL_isB HBI.out 4) 4)).1
    have nr4 : num (tk (chL B 4) 4) < 4294967296 := tk_lt (chL_isB HBI.out 4) 4 _ (by decide) (by decide)
    generalize hq : num (tk (chL B 4) 4) = q4 at *
    have HQ4 : Hid (chV B 4 = q4) := Lib.hid hq
    clear hq hr ht HR4' HY4 BZ4
    go_wp2_with fail
    refine (u32_any g (chL B 5) (chB B 5) _ (by have := chL_len (B := B) 5; omega) (chL_isB HBI.out 5) (by exact HR5'.out)).mono ?_
    rintro e y6 ⟨rfl, hr, ht⟩
    have HR6' : Hid (Rd y6 g (chL B 6) (chB B 6)) := Lib.hid hr
    have HY6 : Below w.heap.size w y6 := bel_tch HY5 ht (by omega)
    have BZ6 := Lib.hid (blk_tch BZ5.out ht (by omega))
    have nq5 := (num_bd (tk_isB (chL_isB HBI.out 5) 4)).1
    have nr5 : num (tk (chL B 5) 4) < 4294967296 := tk_lt (chL_isB HBI.out 5) 4 _ (by decide) (by decide)
    generalize hq : num (tk (chL B 5) 4) = q5 at *
    have HQ5 : Hid (chV B 5 = q5) := Lib.hid hq
    clear hq hr ht HR5' HY5 BZ5
    go_wp2_with fail
    refine (u32_any g (chL B 6) (chB B 6) _ (by have := chL_len (B := B) 6; omega) (chL_isB HBI.out 6) (by exact HR6'.out)).mono ?_
    rintro e y7 ⟨rfl, hr, ht⟩
    have HR7' : Hid (Rd y7 g (chL B 7) (chB B 7)) := Lib.hid hr
    have HY7 : Below w.heap.size w y7 := bel_tch HY6 ht (by omega)
    have BZ7 := Lib.hid (blk_tch BZ6.out ht (by omega))
    have nq6 := (num_bd (tk_isB (chL_isB HBI.out 6) 4)).1
    have nr6 : num (tk (chL B 6) 4) < 4294967296 := tk_lt (chL_isB HBI.out 6) 4 _ (by decide) (by decide)
    generalize hq : num (tk (chL B 6) 4) = q6 at *
    have HQ6 : Hid (chV B 6 = q6) := Lib.hid hq
    clear hq hr ht HR6' HY6 BZ6
    go_wp2_with fail
    refine (u32_any g (chL B 7) (chB B 7) _ (by have := chL_len (B := B) 7; omega) (chL_isB HBI.out 7) (by exact Rd.below HR7'.out (bel_alloc (Below.refl _ _) _))).mono ?_
    rintro e y8 ⟨rfl, hr, ht⟩
    have HR8' : Hid (Rd y8 g (chL B 8) (chB B 8)) := Lib.hid hr
    have HY8 : Below w.heap.size w y8 := bel_tch (bel_alloc HY7 _) ht (by omega)
    have BZ8 := Lib.hid (blk_tch (BZ7.out.alloc _) ht (by omega))
    have hgs : g < y7.heap.size := HR7'.out.lt
    have hgs2 : w.heap.size < y7.heap.size := BZ7.out.lt
    have SB8 : Hid (Blk y8 y7.heap.size #[.int .u64 q0, .int .u64 q1, .int .u64 q2, .int .u64 q3, .int .u32 q4, .int .u32 q5, .int .u32 q6, .int .i64 0, .int .i64 0, .int .u64 0, .int .u64 0, .int .u64 0, .int .u64 0] 54) := Lib.hid (blk_tch (Blk.new _ _ _ _ rfl) ht (by omega))
    have nq7 := (num_bd (tk_isB (chL_isB HBI.out 7) 4)).1
    have nr7 : num (tk (chL B 7) 4) < 4294967296 := tk_lt (chL_isB HBI.out 7) 4 _ (by decide) (by decide)
    generalize hq : num (tk (chL B 7) 4) = q7 at *
    have HQ7 : Hid (chV B 7 = q7) := Lib.hid hq
    clear hq hr ht HR7' HY7 BZ7
    generalize y7.heap.size = gs at *
    go_wp2_with fail
    refine (u32_any g (chL B 8) (chB B 8) _ (by have := chL_len (B := B) 8; omega) (chL_isB HBI.out 8) (by exact HR8'.out)).mono ?_
    rintro e y9 ⟨rfl, hr, ht⟩
    have HR9' : Hid (Rd y9 g (chL B 9) (chB B 9)) := Lib.hid hr
    have HY9 : Below w.heap.size w y9 := bel_tch HY8 ht (by omega)
    have BZ9 := Lib.hid (blk_tch BZ8.out ht (by omega))
    have SB9 := Lib.hid (blk_tch SB8.out ht (by omega))
    have nq8 := (num_bd (tk_isB (chL_isB HBI.out 8) 4)).1
    have nr8 : num (tk (chL B 8) 4) < 4294967296 := tk_lt (chL_isB HBI.out 8) 4 _ (by decide) (by decide)
    generalize hq : num (tk (chL B 8) 4) = q8 at *
    have HQ8 : Hid (chV B 8 = q8) := Lib.hid hq
    clear hq hr ht HR8' HY8 BZ8 SB8
    go_wp2_with fail
    refine (u64_any g (chL B 9) (chB B 9) _ (by have := chL_len (B := B) 9; omega) (chL_isB HBI.out 9) (by exact HR9'.out)).mono ?_
    rintro e y10 ⟨rfl, hr, ht⟩
    have HR10' : Hid (Rd y10 g (chL B 10) (chB B 10)) := Lib.hid hr
    have HY10 : Below w.heap.size w y10 := bel_tch HY9 ht (by omega)
    have BZ10 := Lib.hid (blk_tch BZ9.out ht (by omega))
    have SB10 := Lib.hid (blk_tch SB9.out ht (by omega))
    have nq9 := (num_bd (tk_isB (chL_isB HBI.out 9) 8)).1
    generalize hq : num (tk (chL B 9) 8) = q9 at *
    have HQ9 : Hid (chV B 9 = q9) := Lib.hid hq
    clear hq hr ht HR9' HY9 BZ9 SB9
    go_wp2_with fail
    refine (u64_any g (chL B 10) (chB B 10) _ (by have := chL_len (B := B) 10; omega) (chL_isB HBI.out 10) (by exact HR10'.out)).mono ?_
    rintro e y11 ⟨rfl, hr, ht⟩
    have HR11' : Hid (Rd y11 g (chL B 11) (chB B 11)) := Lib.hid hr
    have HY11 : Below w.heap.size w y11 := bel_tch HY10 ht (by omega)
    have BZ11 := Lib.hid (blk_tch BZ10.out ht (by omega))
    have SB11 := Lib.hid (blk_tch SB10.out ht (by omega))
    have nq10 := (num_bd (tk_isB (chL_isB HBI.out 10) 8)).1
    generalize hq : num (tk (chL B 10) 8) = q10 at *
    have HQ10 : Hid (chV B 10 = q10) := Lib.hid hq
    clear hq hr ht HR10' HY10 BZ10 SB10
    go_wp2_with fail
    refine (u64_any g (chL B 11) (chB B 11) _ (by have := chL_len (B := B) 11; omega) (chL_isB HBI.out 11) (by exact HR11'.out)).mono ?_
    rintro e y12 ⟨rfl, hr, ht⟩
    have HR12' : Hid (Rd y12 g (chL B 12) (chB B 12)) := Lib.hid hr
    have HY12 : Below w.heap.size w y12 := bel_tch HY11 ht (by omega)
    have BZ12 := Lib.hid (blk_tch BZ11.out ht (by omega))
    have SB12 := Lib.hid (blk_tch SB11.out ht (by omega))
    have nq11 := (num_bd (tk_isB (chL_isB HBI.out 11) 8)).1
    generalize hq : num (tk (chL B 11) 8) = q11 at *
    have HQ11 : Hid (chV B 11 = q11) := Lib.hid hq
    clear hq hr ht HR11' HY11 BZ11 SB11
    go_wp2_with fail
    refine (u64_any g (chL B 12) (chB B 12) _ (by have := chL_len (B := B) 12; omega) (chL_isB HBI.out 12) (by exact HR12'.out)).mono ?_
    rintro e y13 ⟨rfl, hr, ht⟩
    have HR13' : Hid (Rd y13 g (chL B 13) (chB B 13)) := Lib.hid hr
    have HY13 : Below w.heap.size w y13 := bel_tch HY12 ht (by omega)
    have BZ13 := Lib.hid (blk_tch BZ12.out ht (by omega))
    have SB13 := Lib.hid (blk_tch SB12.out ht (by omega))
    have nq12 := (num_bd (tk_isB (chL_isB HBI.out 12) 8)).1
    generalize hq : num (tk (chL B 12) 8) = q12 at *
    have HQ12 : Hid (chV B 12 = q12) := Lib.hid hq
    clear hq hr ht HR12' HY12 BZ12 SB12
    obtain ⟨A9, c9, hRB, _⟩ := HR13'.out
    have HRB := Lib.hid hRB
    clear hRB
    obtain ⟨kc, kf, kz⟩ := SB13.out.facts
    have hgg : g ≠ gs := by omega
    have hgw2 : w.heap.size ≠ gs := by omega
    go_wp2_with fail
    refine (end_b g (chL B 13).length (chB B 13) _ ⟨A9, c9, (by exact Blk.set (Blk.set (Blk.set (Blk.set (Blk.set (Blk.set HRB.out hgg) hgg) hgg) hgg) hgg) hgg)⟩).mono ?_
    rintro e y14 ⟨rfl, hw⟩
    have SB14 : Hid (Blk y14 gs #[.int .u64 q0, .int .u64 q1, .int .u64 q2, .int .u64 q3, .int .u32 q4, .int .u32 q5, .int .u32 q6, .int .i64 q7, .int .i64 q8, .int .u64 q9, .int .u64 q10, .int .u64 q11, .int .u64 q12] 54) := Lib.hid (by rw [← hw]; exact ((((((SB13.out.store 7 (.int .i64 q7)).store 8 (.int .i64 q8)).store 9 (.int .u64 q9)).store 10 (.int .u64 q10)).store 11 (.int .u64 q11)).store 12 (.int .u64 q12)).of_eq (by simp))
    have BZ14 : Hid (Blk y14 w.heap.size #[.int .u64 0, .int .u64 0, .int .u64 0, .int .u64 0, .int .u32 0, .int .u32 0, .int .u32 0, .int .i64 0, .int .i64 0, .int .u64 0, .int .u64 0, .int .u64 0, .int .u64 0] 54) := Lib.hid (by rw [← hw]; exact Blk.set (Blk.set (Blk.set (Blk.set (Blk.set (Blk.set BZ13.out hgw2) hgw2) hgw2) hgw2) hgw2) hgw2)
    have hgs3 : w.heap.size ≤ gs := by omega
    have HY14 : Below w.heap.size w y14 := by rw [← hw]; exact bel_set (bel_set (bel_set (bel_set (bel_set (bel_set HY13 hgs3 _) hgs3 _) hgs3 _) hgs3 _) hgs3 _) hgs3 _
    clear hw kc kf kz HRB SB13 BZ13 HY13 HR13'
    by_cases h84 : B.length = 84
    · rw [(ch_end B).2 h84]
      have e1 : RightS (chV B) = RightP q0 q4 q5 q6 q7 q8 := by unfold RightS; rw [HQ0.out, HQ4.out, HQ5.out, HQ6.out, HQ7.out, HQ8.out]
      by_cases hR : RightS (chV B)
      · have hr : supR (B, 0) = (chV B, 0) := by unfold supR; rw [if_neg (by simp), if_neg (by simp [h84, hR])]
        have HE : Hid (Ending.returned (Value.tuple #[.agg #[.int .u64 q0, .int .u64 q1, .int .u64 q2, .int .u64 q3, .int .u32 q4, .int .u32 q5, .int .u32 q6, .int .i64 q7, .int .i64 q8, .int .u64 q9, .int .u64 q10, .int .u64 q11, .int .u64 q12], .int .i64 0]) = Ending.returned (Value.tuple #[.agg #[.int .u64 (chV B 0), .int .u64 (chV B 1), .int .u64 (chV B 2), .int .u64 (chV B 3), .int .u32 (chV B 4), .int .u32 (chV B 5), .int .u32 (chV B 6), .int .i64 (chV B 7), .int .i64 (chV B 8), .int .u64 (chV B 9), .int .u64 (chV B 10), .int .u64 (chV B 11), .int .u64 (chV B 12)], .int .i64 0])) := Lib.hid (by rw [HQ0.out, HQ1.out, HQ2.out, HQ3.out, HQ4.out, HQ5.out, HQ6.out, HQ7.out, HQ8.out, HQ9.out, HQ10.out, HQ11.out, HQ12.out])
        have HR := Lib.hid hr
        rw [e1] at hR
        have HRR := Lib.hid hR
        clear hr hR e1 h84
        obtain ⟨kc, kf, kz⟩ := SB14.out.facts
        go_wp2_with fail
        refine (right_any q0 q1 q2 q3 q4 q5 q6 q7 q8 q9 q10 q11 q12 _ nq4 nq5 nq6 true ⟨fun _ => HRR.out, fun _ => rfl⟩).mono ?_
        rintro e y15 ⟨rfl, hb⟩
        have BZ15 := Lib.hid (BZ14.out.below hb)
        have SB15 := Lib.hid (SB14.out.below hb)
        have HY15 := bel_trans HY14 hb
        clear hb kc kf kz BZ14 SB14 HY14
        obtain ⟨kc, kf, kz⟩ := SB15.out.facts
        go_wp2_with (refine wpList_store_row rfl 54 (.tmp 2) (.tmp 59) (by rfl) _ #[.int .u64 q0, .int .u64 q1, .int .u64 q2, .int .u64 q3, .int .u32 q4, .int .u32 q5, .int .u32 q6, .int .i64 q7, .int .i64 q8, .int .u64 q9, .int .u64 q10, .int .u64 q11, .int .u64 q12] (by rfl) (by rfl) 54 _ BZ15.out info_super (by kernel_rfl) (by kernel_rfl) ?_)
        refine bodyPost_ret_by (v := .tuple #[.agg #[.int .u64 q0, .int .u64 q1, .int .u64 q2, .int .u64 q3, .int .u32 q4, .int .u32 q5, .int .u32 q6, .int .i64 q7, .int .i64 q8, .int .u64 q9, .int .u64 q10, .int .u64 q11, .int .u64 q12], .int .i64 0]) ?_ rfl ?_
        · exact results_cell2 (a := 2) (u := 3) rfl _ _ _ w.heap.size rfl _ (run_loadVar_row _ _ 54 54 _ (0, 0) _ (Crc.blk_row BZ15.out) Try.underlying54 rfl info_super)
        · rw [HR0.out, HR.out]
          exact supRes_mk (chV B) 0 HE.out (Crc.bel_row HY15 (Nat.le_refl _) _)
      · have hr : supR (B, 0) = (fun _ => 0, 21) := by unfold supR; rw [if_neg (by simp), if_pos (by simp [hR])]
        have HR := Lib.hid hr
        rw [e1] at hR
        have HRR := Lib.hid hR
        clear hr hR e1 h84
        obtain ⟨kc, kf, kz⟩ := SB14.out.facts
        go_wp2_with fail
        refine (right_any q0 q1 q2 q3 q4 q5 q6 q7 q8 q9 q10 q11 q12 _ nq4 nq5 nq6 false ⟨fun h => by simp at h, fun h => absurd h HRR.out⟩).mono ?_
        rintro e y15 ⟨rfl, hb⟩
        have BZ15 := Lib.hid (BZ14.out.below hb)
        have HY15 := bel_trans HY14 hb
        clear hb kc kf kz BZ14 SB14 HY14
        go_wp2_with (refine wpList_store_row rfl 54 (.tmp 2) (.tmp 58) (by rfl) _ #[.int .u64 0, .int .u64 0, .int .u64 0, .int .u64 0, .int .u32 0, .int .u32 0, .int .u32 0, .int .i64 0, .int .i64 0, .int .u64 0, .int .u64 0, .int .u64 0, .int .u64 0] (by rfl) (by rfl) 54 _ BZ15.out info_super (by kernel_rfl) (by kernel_rfl) ?_)
        refine bodyPost_ret_by (v := .tuple #[.agg #[.int .u64 0, .int .u64 0, .int .u64 0, .int .u64 0, .int .u32 0, .int .u32 0, .int .u32 0, .int .i64 0, .int .i64 0, .int .u64 0, .int .u64 0, .int .u64 0, .int .u64 0], .int .i64 21]) ?_ rfl ?_
        · exact results_cell2 (a := 2) (u := 3) rfl _ _ _ w.heap.size rfl _ (run_loadVar_row _ _ 54 54 _ (0, 0) _ (Crc.blk_row BZ15.out) Try.underlying54 rfl info_super)
        · rw [HR0.out, HR.out]
          exact ⟨rfl, Crc.bel_row HY15 (Nat.le_refl _) _⟩
    · have hr : supR (B, 0) = (fun _ => 0, 21) := by unfold supR; rw [if_neg (by simp), if_pos (by simp [h84])]
      have HR := Lib.hid hr
      have hz := fun h => h84 ((ch_end B).1 h)
      clear hr h84
      generalize (if chB B 13 = true then (20 : Int) else if 0 < (chL B 13).length then 21 else 0) = z at *
      have dz : (z != 0) = true := by simpa using hz
      clear hz
      go_wp2_with (refine wpList_store_row rfl 54 (.tmp 2) (.tmp 58) (by rfl) _ #[.int .u64 0, .int .u64 0, .int .u64 0, .int .u64 0, .int .u32 0, .int .u32 0, .int .u32 0, .int .i64 0, .int .i64 0, .int .u64 0, .int .u64 0, .int .u64 0, .int .u64 0] (by rfl) (by rfl) 54 _ BZ14.out info_super (by kernel_rfl) (by kernel_rfl) ?_)
      refine bodyPost_ret_by (v := .tuple #[.agg #[.int .u64 0, .int .u64 0, .int .u64 0, .int .u64 0, .int .u32 0, .int .u32 0, .int .u32 0, .int .i64 0, .int .i64 0, .int .u64 0, .int .u64 0, .int .u64 0, .int .u64 0], .int .i64 21]) ?_ rfl ?_
      · exact results_cell2 (a := 2) (u := 3) rfl _ _ _ w.heap.size rfl _ (run_loadVar_row _ _ 54 54 _ (0, 0) _ (Crc.blk_row BZ14.out) Try.underlying54 rfl info_super)
      · rw [HR0.out, HR.out]
        exact ⟨rfl, Crc.bel_row HY14 (Nat.le_refl _) _⟩
  · have hr : supR (B, code) = (fun _ => 0, code) := by unfold supR; rw [if_pos (by simpa using c0)]
    have HR := Lib.hid hr
    have d1 : (code != 0) = true := by simpa using c0
    clear hr c0
    go_wp2_with (refine wpList_store_row rfl 54 (.tmp 2) (.tmp 15) (by rfl) _ #[.int .u64 0, .int .u64 0, .int .u64 0, .int .u64 0, .int .u32 0, .int .u32 0, .int .u32 0, .int .i64 0, .int .i64 0, .int .u64 0, .int .u64 0, .int .u64 0, .int .u64 0] (by rfl) (by rfl) 54 _ BZ1.out info_super (by kernel_rfl) (by kernel_rfl) ?_)
    refine bodyPost_ret_by (v := .tuple #[.agg #[.int .u64 0, .int .u64 0, .int .u64 0, .int .u64 0, .int .u32 0, .int .u32 0, .int .u32 0, .int .i64 0, .int .i64 0, .int .u64 0, .int .u64 0, .int .u64 0, .int .u64 0], .int .i64 code]) ?_ rfl ?_
    · exact results_cell2 (a := 2) (u := 3) rfl _ _ _ w.heap.size rfl _ (run_loadVar_row _ _ 54 54 _ (0, 0) _ (Crc.blk_row BZ1.out) Try.underlying54 rfl info_super)
    · rw [HR0.out, HR.out]
      exact ⟨rfl, Crc.bel_row HB1 (Nat.le_refl _) _⟩
end Go.Proofs.Ytkdphoacniigjaa.Super
