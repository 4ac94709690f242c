/- The walks of the laws NeedTells and NeedEnough. -/
import Derived.Test.YtobecmablabmeaaNeed
namespace Go.Proofs.Ytobecmablabmeaa.Need
open Go.RowKit Mem
set_option linter.unusedVariables false
set_option linter.unusedSimpArgs false

def FourAt (w : World) (B : Nat) (a b c d : Int) : Prop :=
  w.cell? ⟨B, 0, none⟩ = some (.int .i64 a) ∧ w.cell? ⟨B, 1, none⟩ = some (.int .i64 b) ∧ w.cell? ⟨B, 2, none⟩ = some (.int .i64 c) ∧ w.cell? ⟨B, 3, none⟩ = some (.int .i64 d)
theorem FourAt.below {w w' : World} {B : Nat} {a b c d : Int} (h : FourAt w B a b c d) (hb : Below w.heap.size w w') : FourAt w' B a b c d :=
  ⟨keep_below hb _ _ h.1, keep_below hb _ _ h.2.1, keep_below hb _ _ h.2.2.1, keep_below hb _ _ h.2.2.2⟩
theorem FourAt.ext {W : World} {B : Nat} {a b c d : Int} (h : FourAt W B a b c d) (x : Ext W) : FourAt x.w B a b c d := h.below x.h
theorem FourAt.new (w : World) (t : TypeId) (a b c d : Int) : FourAt (w.alloc (.cells #[.int .i64 a, .int .i64 b, .int .i64 c, .int .i64 d] t)) w.heap.size a b c d := by
  have h := fun j => cell_of_row (w.alloc (.cells #[.int .i64 a, .int .i64 b, .int .i64 c, .int .i64 d] t)) w.heap.size j #[.int .i64 a, .int .i64 b, .int .i64 c, .int .i64 d] t (0, 0) (heap_alloc_new w _)
  exact ⟨h 0, h 1, h 2, h 3⟩
theorem ex_bool (p : Prop) : ∃ v : Bool, v = true ↔ p := by
  by_cases h : p
  · exact ⟨true, by simp [h]⟩
  · exact ⟨false, by simp [h]⟩

def Small (x : Int) : Prop := -1073741824 ≤ x ∧ x ≤ 1073741824
/-! ### NeedEnough -/
def min4 (x y z u : Int) : Int := min (min (min x y) z) u
theorem run_min_int4 {P : Program} (w : World) (ts : Array TypeId) (t : TypeId) (x y z u : Int) : (Builtin.min_ ts t #[.int .i64 x, .int .i64 y, .int .i64 z, .int .i64 u]).run P w = .ok (.int .i64 (min4 x y z u)) w := by
  have e : ∀ a b : Int, (if b < a then b else a) = min a b := fun a b => by split <;> omega
  simp [Builtin.min_, Builtin.min2, min4, e]
theorem enough_plain (f h n l k ct : Int) (n0 : 0 ≤ n) (l0 : 0 ≤ l) (hf : ¬ f < h + dataN k + 2 * behindN n l k ct) :
    behindN n l k ct ≤ f - h - nodesN n - pagesN l - dataN k ∧ ¬ f < h + dataN 2 + 2 * behindN n l 2 0 := by
  have be := entries_bd k ct
  have bg := grow_bd k
  have bd := data_bd k
  have e0 : entriesN 2 0 = 0 := rfl
  have e1 : growN 2 = 0 := rfl
  have e2 : dataN 2 = 0 := rfl
  have h1 : nodesN n ≤ nodesN (n + entriesN k ct) := by unfold nodesN; omega
  have h2 : pagesN l ≤ pagesN (l + growN k) := by unfold pagesN; omega
  unfold behindN at *
  rw [e0, e1, e2]
  simp only [Int.add_zero]
  generalize nodesN n = a at *
  generalize pagesN l = b at *
  generalize nodesN (n + entriesN k ct) = a' at *
  generalize pagesN (l + growN k) = b' at *
  omega
set_option maxRecDepth 100000 in
set_option maxHeartbeats 4000000 in
theorem enoughLaw_any (Z : Nat → Int) (k vo i bl ct pt : Int) (A1 A2 : Option Addr) (n1 c1 n2 c2 : Nat) (w : World) :
    Calls Try.prog 7 #[.agg #[.int .i64 k, .int .i64 vo, .int .i64 i, .int .i64 bl, .int .i64 ct, .int .u64 pt, .slice A1 n1 c1, .slice A2 n2 c2], .agg #[.int .i64 (Z 0), .int .i64 (Z 1), .int .i64 (Z 2), .int .i64 (Z 3)]] w fun e w' => e = .returned (.bool true) ∧ Below w.heap.size w w' := by
  obtain ⟨v, hv⟩ := ex_bool (Few Z)
  have HV := Lib.hid hv
  clear hv
  go_enter Try.func7, Try.ntmps7
  go_wp2_with fail
  have HO : OpAt ((w.alloc (.cells #[.int .i64 k, .int .i64 vo, .int .i64 i, .int .i64 bl, .int .i64 ct, .int .u64 pt, .slice A1 n1 c1, .slice A2 n2 c2] 41)).alloc (.cells #[.int .i64 (Z 0), .int .i64 (Z 1), .int .i64 (Z 2), .int .i64 (Z 3)] 42)) w.heap.size k vo i bl ct pt A1 A2 n1 c1 n2 c2 := (OpAt.new w 41 k vo i bl ct pt A1 A2 n1 c1 n2 c2).below (bel_alloc (Below.refl _ _) _)
  have HF : FourAt ((w.alloc (.cells #[.int .i64 k, .int .i64 vo, .int .i64 i, .int .i64 bl, .int .i64 ct, .int .u64 pt, .slice A1 n1 c1, .slice A2 n2 c2] 41)).alloc (.cells #[.int .i64 (Z 0), .int .i64 (Z 1), .int .i64 (Z 2), .int .i64 (Z 3)] 42)) (w.heap.size + 1) (Z 0) (Z 1) (Z 2) (Z 3) := by
    have := FourAt.new (w.alloc (.cells #[.int .i64 k, .int .i64 vo, .int .i64 i, .int .i64 bl, .int .i64 ct, .int .u64 pt, .slice A1 n1 c1, .slice A2 n2 c2] 41)) 42 (Z 0) (Z 1) (Z 2) (Z 3)
    simpa using this
  have hb : Below w.heap.size w ((w.alloc (.cells #[.int .i64 k, .int .i64 vo, .int .i64 i, .int .i64 bl, .int .i64 ct, .int .u64 pt, .slice A1 n1 c1, .slice A2 n2 c2] 41)).alloc (.cells #[.int .i64 (Z 0), .int .i64 (Z 1), .int .i64 (Z 2), .int .i64 (Z 3)] 42)) := bel_alloc (bel_alloc (Below.refl _ _) _) _
  generalize (w.alloc (.cells #[.int .i64 k, .int .i64 vo, .int .i64 i, .int .i64 bl, .int .i64 ct, .int .u64 pt, .slice A1 n1 c1, .slice A2 n2 c2] 41)).alloc (.cells #[.int .i64 (Z 0), .int .i64 (Z 1), .int .i64 (Z 2), .int .i64 (Z 3)] 42) = W at HO HF hb ⊢
  have hx := HO
  have hy := HF
  unfold OpAt at hx
  unfold FourAt at hy
  have cy := HF.ext
  unfold FourAt at cy
  (refine wp_region_ext (by kernel_rfl) (by kernel_rfl) ?_; (try dsimp only [List.append]); (repeat (go_big_quiet_step (fail))); refine wpQuiet_nil ?_; rintro _ ⟨⟨wq, hbq⟩, rfl⟩)
  replace hb := bel_trans hb hbq
  replace HO := OpAt.below HO hbq
  replace HF := FourAt.below HF hbq
  clear hx hy hbq cy
  have hx := HO
  have hy := HF
  unfold OpAt at hx
  unfold FourAt at hy
  go_wp2_with fail
  refine (few_any Z _ v HV.out).mono ?_
  rintro e w' ⟨rfl, hb'⟩
  replace hb := bel_trans hb hb'
  replace HO := OpAt.below HO hb'
  replace HF := FourAt.below HF hb'
  clear hx hy hb'
  have hx := HO
  have hy := HF
  unfold OpAt at hx
  unfold FourAt at hy
  clear hy HF
  rcases v with _ | _
  · go_wp2
    go_ret
    exact ⟨rfl, (by repeat (first | assumption | exact Below.refl _ _ | refine bel_alloc ?_ _ | refine bel_drewN ?_ _ | refine bel_drew ?_ | refine bel_trans ?_ (by assumption)))⟩
  obtain ⟨⟨bf0, bf1⟩, ⟨bh0, bh1⟩, ⟨bn0, bn1⟩, ⟨bl0, bl1⟩⟩ : Small (Z 0) ∧ Small (Z 1) ∧ Small (Z 2) ∧ Small (Z 3) := ⟨(HV.out.1 rfl) 0 (by omega), (HV.out.1 rfl) 1 (by omega), (HV.out.1 rfl) 2 (by omega), (HV.out.1 rfl) 3 (by omega)⟩
  clear HV
  generalize Z 0 = f at *
  generalize Z 1 = h at *
  generalize Z 2 = n at *
  generalize Z 3 = l at *
  have hmin := fun (w : World) (ts : Array TypeId) (t : TypeId) => run_min_int4 (P := Try.prog) w ts t f h n l
  have m1 : min4 f h n l < 0 ∨ (0 ≤ f ∧ 0 ≤ h ∧ 0 ≤ n ∧ 0 ≤ l ∧ 0 ≤ min4 f h n l) := by unfold min4; omega
  generalize min4 f h n l = q at *
  rcases m1 with m1 | ⟨p0, p1, p2, p3, p4⟩
  · go_wp2
    go_ret
    exact ⟨rfl, (by repeat (first | assumption | exact Below.refl _ _ | refine bel_alloc ?_ _ | refine bel_drewN ?_ _ | refine bel_drew ?_ | refine bel_trans ?_ (by assumption)))⟩
  have hFu := Lib.hid (fun w => full_any f h n l k vo i bl ct pt A1 A2 n1 c1 n2 c2 w (by omega) (by omega) bn0 bn1 bl0 bl1)
  have hFd := Lib.hid (fun w => full_any f h n l 2 0 0 0 0 0 none none 0 0 0 0 w (by omega) (by omega) bn0 bn1 bl0 bl1)
  by_cases hfull : f < h + dataN k + 2 * behindN n l k ct
  · have dF : decide (f < h + dataN k + 2 * behindN n l k ct) = true := by simpa using hfull
    rw [dF] at hFu
    clear dF hfull hFd
    go_wp2_with fail
    refine (hFu.out _).mono ?_
    rintro e w' ⟨rfl, hb'⟩
    replace hb := bel_trans hb hb'
    clear hx hb' HO hFu
    go_wp2
    go_ret
    exact ⟨rfl, (by repeat (first | assumption | exact Below.refl _ _ | refine bel_alloc ?_ _ | refine bel_drewN ?_ _ | refine bel_drew ?_ | refine bel_trans ?_ (by assumption)))⟩
  have hp := enough_plain f h n l k ct p2 p3 hfull
  have bd := data_bd k
  have bb := behind_bd n l k ct bn1 bl1
  have bn := nodes_bd n (by omega)
  have bp := pages_bd l (by omega)
  have hEn := Lib.hid (fun w => enough_any (f - h - nodesN n - pagesN l) n l k vo i bl ct pt A1 A2 n1 c1 n2 c2 w (by omega) (by omega) bn0 bn1 bl0 bl1)
  have dF : decide (f < h + dataN k + 2 * behindN n l k ct) = false := by simpa using hfull
  have dE : decide (behindN n l k ct ≤ f - h - nodesN n - pagesN l - dataN k) = true := by simpa using hp.1
  have dD : decide (f < h + dataN 2 + 2 * behindN n l 2 0) = false := by simpa using hp.2
  rw [dF] at hFu
  rw [dE] at hEn
  rw [dD] at hFd
  have hN' := Lib.hid (fun w => nodes_any n w (by omega) (by omega))
  have hPg := Lib.hid (fun w => pages_any l w (by omega) (by omega))
  clear dF dE dD hp hfull bd bb
  generalize nodesN n = nn at *
  generalize pagesN l = pl at *
  have e1 : IntKind.i64.wrap (f - h) = f - h := IntWalk.i64_in _ (by omega)
  have e2 : IntKind.i64.wrap (f - h - nn) = f - h - nn := IntWalk.i64_in _ (by omega)
  have e3 : IntKind.i64.wrap (f - h - nn - pl) = f - h - nn - pl := IntWalk.i64_in _ (by omega)
  go_wp2_with fail
  refine (hFu.out _).mono ?_
  rintro e w' ⟨rfl, hb'⟩
  replace hb := bel_trans hb hb'
  replace HO := OpAt.below HO hb'
  clear hx hb'
  have hx := HO
  unfold OpAt at hx
  have cx := HO.ext
  unfold OpAt at cx
  go_wp2
  (refine wp_region_ext (by kernel_rfl) (by kernel_rfl) ?_; (try dsimp only [List.append]); (repeat (go_big_quiet_step (first | (go_at_call 24; exact ext_call (hN'.out _)) | (go_at_call 25; exact ext_call (hPg.out _)) | (go_at_call 30; exact ext_call (hEn.out _)) | (go_at_call 31; exact ext_call (hFd.out _)) | (go_at_call 32; exact ext_call (alive_any _))))); refine wpQuiet_nil ?_; rintro _ ⟨⟨wq, hbq⟩, rfl⟩)
  replace hb := bel_trans hb hbq
  clear hbq cx
  go_wp2
  go_ret
  exact ⟨rfl, (by repeat (first | assumption | exact Below.refl _ _ | refine bel_alloc ?_ _ | refine bel_drewN ?_ _ | refine bel_drew ?_ | refine bel_trans ?_ (by assumption)))⟩
end Go.Proofs.Ytobecmablabmeaa.Need
