/- The walks of the laws NeedTells and NeedEnough. -/
import Derived.Test.YtobecmablabmeaaNeed
namespace Go.Proofs.Ytobecmablabmeaa.Need
open Go.RowKit Mem
set_option linter.unusedVariables false
set_option linter.unusedSimpArgs false

def FourAt (w : World) (B : Nat) (a b c d : Int) : Prop :=
  w.cell? ⟨B, 0, none⟩ = some (.int .i64 a) ∧ w.cell? ⟨B, 1, none⟩ = some (.int .i64 b) ∧ w.cell? ⟨B, 2, none⟩ = some (.int .i64 c) ∧ w.cell? ⟨B, 3, none⟩ = some (.int .i64 d)
theorem FourAt.below {w w' : World} {B : Nat} {a b c d : Int} (h : FourAt w B a b c d) (hb : Below w.heap.size w w') : FourAt w' B a b c d :=
  ⟨keep_below hb _ _ h.1, keep_below hb _ _ h.2.1, keep_below hb _ _ h.2.2.1, keep_below hb _ _ h.2.2.2⟩
theorem FourAt.ext {W : World} {B : Nat} {a b c d : Int} (h : FourAt W B a b c d) (x : Ext W) : FourAt x.w B a b c d := h.below x.h
theorem FourAt.new (w : World) (t : TypeId) (a b c d : Int) : FourAt (w.alloc (.cells #[.int .i64 a, .int .i64 b, .int .i64 c, .int .i64 d] t)) w.heap.size a b c d := by
  have h := fun j => cell_of_row (w.alloc (.cells #[.int .i64 a, .int .i64 b, .int .i64 c, .int .i64 d] t)) w.heap.size j #[.int .i64 a, .int .i64 b, .int .i64 c, .int .i64 d] t (0, 0) (heap_alloc_new w _)
  exact ⟨h 0, h 1, h 2, h 3⟩
theorem ex_bool (p : Prop) : ∃ v : Bool, v = true ↔ p := by
  by_cases h : p
  · exact ⟨true, by simp [h]⟩
  · exact ⟨false, by simp [h]⟩

/-- The law's tail: what is counted is the same, one by one. -/
def Small (x : Int) : Prop := -1073741824 ≤ x ∧ x ≤ 1073741824
set_option maxRecDepth 100000 in
set_option maxHeartbeats 8000000 in
theorem tells_any (Z : Nat → Int) (k vo i bl ct pt : Int) (A1 A2 : Option Addr) (n1 c1 n2 c2 : Nat) (w : World) :
    Calls Try.prog 6 #[.agg #[.int .i64 k, .int .i64 vo, .int .i64 i, .int .i64 bl, .int .i64 ct, .int .u64 pt, .slice A1 n1 c1, .slice A2 n2 c2], .agg #[.int .i64 (Z 0), .int .i64 (Z 1), .int .i64 (Z 2), .int .i64 (Z 3)]] w fun e w' => e = .returned (.bool true) ∧ Below w.heap.size w w' := by
  obtain ⟨v, hv⟩ := ex_bool (Few Z)
  have HV := Lib.hid hv
  clear hv
  go_enter Try.func6, Try.ntmps6
  go_wp2_with fail
  have HO : OpAt ((w.alloc (.cells #[.int .i64 k, .int .i64 vo, .int .i64 i, .int .i64 bl, .int .i64 ct, .int .u64 pt, .slice A1 n1 c1, .slice A2 n2 c2] 41)).alloc (.cells #[.int .i64 (Z 0), .int .i64 (Z 1), .int .i64 (Z 2), .int .i64 (Z 3)] 42)) w.heap.size k vo i bl ct pt A1 A2 n1 c1 n2 c2 := (OpAt.new w 41 k vo i bl ct pt A1 A2 n1 c1 n2 c2).below (bel_alloc (Below.refl _ _) _)
  have HF : FourAt ((w.alloc (.cells #[.int .i64 k, .int .i64 vo, .int .i64 i, .int .i64 bl, .int .i64 ct, .int .u64 pt, .slice A1 n1 c1, .slice A2 n2 c2] 41)).alloc (.cells #[.int .i64 (Z 0), .int .i64 (Z 1), .int .i64 (Z 2), .int .i64 (Z 3)] 42)) (w.heap.size + 1) (Z 0) (Z 1) (Z 2) (Z 3) := by
    have := FourAt.new (w.alloc (.cells #[.int .i64 k, .int .i64 vo, .int .i64 i, .int .i64 bl, .int .i64 ct, .int .u64 pt, .slice A1 n1 c1, .slice A2 n2 c2] 41)) 42 (Z 0) (Z 1) (Z 2) (Z 3)
    simpa using this
  have hb : Below w.heap.size w ((w.alloc (.cells #[.int .i64 k, .int .i64 vo, .int .i64 i, .int .i64 bl, .int .i64 ct, .int .u64 pt, .slice A1 n1 c1, .slice A2 n2 c2] 41)).alloc (.cells #[.int .i64 (Z 0), .int .i64 (Z 1), .int .i64 (Z 2), .int .i64 (Z 3)] 42)) := bel_alloc (bel_alloc (Below.refl _ _) _) _
  generalize (w.alloc (.cells #[.int .i64 k, .int .i64 vo, .int .i64 i, .int .i64 bl, .int .i64 ct, .int .u64 pt, .slice A1 n1 c1, .slice A2 n2 c2] 41)).alloc (.cells #[.int .i64 (Z 0), .int .i64 (Z 1), .int .i64 (Z 2), .int .i64 (Z 3)] 42) = W at HO HF hb ⊢
  have hx := HO
  have hy := HF
  unfold OpAt at hx
  unfold FourAt at hy
  go_wp2_with fail
  refine (few_any Z _ v HV.out).mono ?_
  rintro e w' ⟨rfl, hb'⟩
  replace hb := bel_trans hb hb'
  replace HO := OpAt.below HO hb'
  replace HF := FourAt.below HF hb'
  clear hx hy hb'
  have hx := HO
  have hy := HF
  unfold OpAt at hx
  unfold FourAt at hy
  rcases v with _ | _
  · go_wp2
    go_ret
    exact ⟨rfl, (by repeat (first | assumption | exact Below.refl _ _ | refine bel_alloc ?_ _ | refine bel_drewN ?_ _ | refine bel_drew ?_ | refine bel_trans ?_ (by assumption)))⟩
  obtain ⟨⟨bf0, bf1⟩, ⟨bh0, bh1⟩, ⟨bn0, bn1⟩, ⟨bl0, bl1⟩⟩ : Small (Z 0) ∧ Small (Z 1) ∧ Small (Z 2) ∧ Small (Z 3) := ⟨(HV.out.1 rfl) 0 (by omega), (HV.out.1 rfl) 1 (by omega), (HV.out.1 rfl) 2 (by omega), (HV.out.1 rfl) 3 (by omega)⟩
  clear HV
  generalize Z 0 = f at *
  generalize Z 1 = h at *
  generalize Z 2 = n at *
  generalize Z 3 = l at *
  have be := entries_bd k ct
  have bg := grow_bd k
  have bn := nodes_bd (n + entriesN k ct) (by omega)
  have bp := pages_bd (l + growN k) (by omega)
  have bb := behind_bd n l k ct bn1 bl1
  have HB : Hid (nodesN (n + entriesN k ct) + pagesN (l + growN k) = behindN n l k ct) := Lib.hid rfl
  have hE := Lib.hid (fun w => lentries_any k vo i bl ct pt A1 A2 n1 c1 n2 c2 w)
  have hG := Lib.hid (fun w => lgrow_any k vo i bl ct pt A1 A2 n1 c1 n2 c2 w)
  have hP := Lib.hid (fun w => lpages_any (l + growN k) w (by omega) (by omega))
  have hN' := Lib.hid (fun w => nodes_any n w (by omega) (by omega))
  have hPg := Lib.hid (fun w => pages_any l w (by omega) (by omega))
  have hPl := Lib.hid (fun w => lpages_any l w (by omega) (by omega))
  have hE' := Lib.hid (fun w => entries_any k vo i bl ct pt A1 A2 n1 c1 n2 c2 w)
  have hG' := Lib.hid (fun w => grow_any k vo i bl ct pt A1 A2 n1 c1 n2 c2 w)
  have hD := Lib.hid (fun w => data_any k vo i bl ct pt A1 A2 n1 c1 n2 c2 w)
  have hB := Lib.hid (fun w => behind_any n l k vo i bl ct pt A1 A2 n1 c1 n2 c2 w bn0 bn1 bl0 bl1)
  have hEn := Lib.hid (fun w => enough_any f n l k vo i bl ct pt A1 A2 n1 c1 n2 c2 w (by omega) (by omega) bn0 bn1 bl0 bl1)
  have hFu := Lib.hid (fun w => full_any f h n l k vo i bl ct pt A1 A2 n1 c1 n2 c2 w (by omega) (by omega) bn0 bn1 bl0 bl1)
  generalize hen : entriesN k ct = en at *
  generalize growN k = gr at *
  generalize hnd : nodesN (n + en) = nd at *
  generalize pagesN (l + gr) = pg at *
  generalize behindN n l k ct = bh at *
  generalize pagesN l = pl at *
  clear hen
  have e4 : IntKind.i64.wrap (n + en) = n + en := IntWalk.i64_in _ (by omega)
  have e5 : IntKind.i64.wrap (l + gr) = l + gr := IntWalk.i64_in _ (by omega)
  have e6 : IntKind.i64.wrap (nd + pg) = bh := by rw [IntWalk.i64_in _ (by omega)]; exact HB.out
  have HND := Lib.hid hnd
  clear hnd
  have HN := Lib.hid (rfl : nodesN n = nodesN n)
  generalize hnn : nodesN n = nn at *
  clear HN
  have HNN := Lib.hid hnn
  clear hnn
  have hdd : (k = 4 ∧ dataN k = 1) ∨ (k ≠ 4 ∧ dataN k = 0) := by
    by_cases h4 : k = 4
    · left; exact ⟨h4, by simp [dataN, h4]⟩
    · right; exact ⟨h4, by simp [dataN, h4]⟩
  generalize dataN k = d at *
  go_wp2_with fail
  have cy := HF.ext
  unfold FourAt at cy
  (refine wp_region_ext (by kernel_rfl) (by kernel_rfl) ?_; (try dsimp only [List.append]); (repeat (go_big_quiet_step (fail))); refine wpQuiet_nil ?_; rintro _ ⟨⟨wq, hbq⟩, rfl⟩)
  replace hb := bel_trans hb hbq
  replace HO := OpAt.below HO hbq
  replace HF := FourAt.below HF hbq
  clear hx hy hbq cy
  have hx := HO
  unfold OpAt at hx
  have cx := HO.ext
  unfold OpAt at cx
  have hcase : (n + en < 0 ∧ n < 0 ∧ IntKind.i64.wrap (2 + pg) = bh ∧ nn = 2) ∨ (0 ≤ n + en ∧ IntKind.i64.wrap ((n + en).tdiv 2) = (n + en) / 2 ∧ IntKind.i64.wrap ((n + en) / 2 + 2) = nd ∧ ((n < 0 ∧ nn = 2) ∨ (0 ≤ n ∧ nn = n / 2 + 2))) := by
    have h1 := HND.out
    have h2 := HNN.out
    unfold nodesN at h1 h2
    by_cases hs : n + en < 0
    · left
      refine ⟨hs, by omega, ?_, by omega⟩
      rw [← e6]; congr 1; omega
    · right
      refine ⟨by omega, ?_, ?_, by omega⟩
      · rw [Int.tdiv_eq_ediv_of_nonneg (by omega), IntWalk.i64_in _ (by omega)]
      · rw [IntWalk.i64_in _ (by omega)]; omega
  clear HF
  rcases hcase with ⟨s1, s2, s3, rfl⟩ | ⟨s1, s2, s3, ⟨s4, rfl⟩ | ⟨s4, rfl⟩⟩
  · rcases hdd with ⟨hk, rfl⟩ | ⟨hk, rfl⟩
    · have dk : (k == 4) = true := by simpa using hk
      clear hk
      go_wp2
      (refine wp_region_ext (by kernel_rfl) (by kernel_rfl) ?_; (try dsimp only [List.append]); (repeat (go_big_quiet_step (first | (go_at_call 21; exact ext_call (hE.out _)) | (go_at_call 23; exact ext_call (hG.out _)) | (go_at_call 22; exact ext_call (hP.out _))))); refine wpQuiet_nil ?_; rintro _ ⟨⟨wq, hbq⟩, rfl⟩)
      replace hb := bel_trans hb hbq
      replace HO := OpAt.below HO hbq
      clear hx hbq cx e4 e5 e6
      have hx := HO
      unfold OpAt at hx
      clear hx
      have cx := HO.ext
      unfold OpAt at cx
      have a2 : IntKind.i64.wrap (f - 1) = f - 1 := IntWalk.i64_in _ (by omega)
      have a3 : IntKind.i64.wrap f = f := IntWalk.i64_in _ (by omega)
      go_wp2
      (refine wp_region_ext (by kernel_rfl) (by kernel_rfl) ?_; (try dsimp only [List.append]); (repeat (go_big_quiet_step (first | (go_at_call 24; exact ext_call (hN'.out _)) | (go_at_call 25; exact ext_call (hPg.out _)) | (go_at_call 22; exact ext_call (hPl.out _)) | (go_at_call 26; exact ext_call (hE'.out _)) | (go_at_call 21; exact ext_call (hE.out _)) | (go_at_call 27; exact ext_call (hG'.out _)) | (go_at_call 23; exact ext_call (hG.out _)) | (go_at_call 28; exact ext_call (hD.out _)) | (go_at_call 29; exact ext_call (hB.out _)) | (go_at_call 30; exact ext_call (hEn.out _)) | (go_at_call 31; exact ext_call (hFu.out _)) | (go_at_call 32; exact ext_call (alive_any _))))); refine wpQuiet_nil ?_; rintro _ ⟨⟨wq, hbq⟩, rfl⟩)
      replace hb := bel_trans hb hbq
      clear hbq cx
      go_wp2
      go_ret
      exact ⟨rfl, (by repeat (first | assumption | exact Below.refl _ _ | refine bel_alloc ?_ _ | refine bel_drewN ?_ _ | refine bel_drew ?_ | refine bel_trans ?_ (by assumption)))⟩
    · have dk : (k == 4) = false := by simpa using hk
      clear hk
      go_wp2
      (refine wp_region_ext (by kernel_rfl) (by kernel_rfl) ?_; (try dsimp only [List.append]); (repeat (go_big_quiet_step (first | (go_at_call 21; exact ext_call (hE.out _)) | (go_at_call 23; exact ext_call (hG.out _)) | (go_at_call 22; exact ext_call (hP.out _))))); refine wpQuiet_nil ?_; rintro _ ⟨⟨wq, hbq⟩, rfl⟩)
      replace hb := bel_trans hb hbq
      replace HO := OpAt.below HO hbq
      clear hx hbq cx e4 e5 e6
      have hx := HO
      unfold OpAt at hx
      clear hx
      have cx := HO.ext
      unfold OpAt at cx
      have a2 : IntKind.i64.wrap (f - 1) = f - 1 := IntWalk.i64_in _ (by omega)
      have a3 : IntKind.i64.wrap f = f := IntWalk.i64_in _ (by omega)
      go_wp2
      (refine wp_region_ext (by kernel_rfl) (by kernel_rfl) ?_; (try dsimp only [List.append]); (repeat (go_big_quiet_step (first | (go_at_call 24; exact ext_call (hN'.out _)) | (go_at_call 25; exact ext_call (hPg.out _)) | (go_at_call 22; exact ext_call (hPl.out _)) | (go_at_call 26; exact ext_call (hE'.out _)) | (go_at_call 21; exact ext_call (hE.out _)) | (go_at_call 27; exact ext_call (hG'.out _)) | (go_at_call 23; exact ext_call (hG.out _)) | (go_at_call 28; exact ext_call (hD.out _)) | (go_at_call 29; exact ext_call (hB.out _)) | (go_at_call 30; exact ext_call (hEn.out _)) | (go_at_call 31; exact ext_call (hFu.out _)) | (go_at_call 32; exact ext_call (alive_any _))))); refine wpQuiet_nil ?_; rintro _ ⟨⟨wq, hbq⟩, rfl⟩)
      replace hb := bel_trans hb hbq
      clear hbq cx
      go_wp2
      go_ret
      exact ⟨rfl, (by repeat (first | assumption | exact Below.refl _ _ | refine bel_alloc ?_ _ | refine bel_drewN ?_ _ | refine bel_drew ?_ | refine bel_trans ?_ (by assumption)))⟩
  · rcases hdd with ⟨hk, rfl⟩ | ⟨hk, rfl⟩
    · have dk : (k == 4) = true := by simpa using hk
      clear hk
      go_wp2
      (refine wp_region_ext (by kernel_rfl) (by kernel_rfl) ?_; (try dsimp only [List.append]); (repeat (go_big_quiet_step (first | (go_at_call 21; exact ext_call (hE.out _)) | (go_at_call 23; exact ext_call (hG.out _)) | (go_at_call 22; exact ext_call (hP.out _))))); refine wpQuiet_nil ?_; rintro _ ⟨⟨wq, hbq⟩, rfl⟩)
      replace hb := bel_trans hb hbq
      replace HO := OpAt.below HO hbq
      clear hx hbq cx e4 e5 e6
      have hx := HO
      unfold OpAt at hx
      clear hx
      have cx := HO.ext
      unfold OpAt at cx
      have a2 : IntKind.i64.wrap (f - 1) = f - 1 := IntWalk.i64_in _ (by omega)
      have a3 : IntKind.i64.wrap f = f := IntWalk.i64_in _ (by omega)
      go_wp2
      (refine wp_region_ext (by kernel_rfl) (by kernel_rfl) ?_; (try dsimp only [List.append]); (repeat (go_big_quiet_step (first | (go_at_call 24; exact ext_call (hN'.out _)) | (go_at_call 25; exact ext_call (hPg.out _)) | (go_at_call 22; exact ext_call (hPl.out _)) | (go_at_call 26; exact ext_call (hE'.out _)) | (go_at_call 21; exact ext_call (hE.out _)) | (go_at_call 27; exact ext_call (hG'.out _)) | (go_at_call 23; exact ext_call (hG.out _)) | (go_at_call 28; exact ext_call (hD.out _)) | (go_at_call 29; exact ext_call (hB.out _)) | (go_at_call 30; exact ext_call (hEn.out _)) | (go_at_call 31; exact ext_call (hFu.out _)) | (go_at_call 32; exact ext_call (alive_any _))))); refine wpQuiet_nil ?_; rintro _ ⟨⟨wq, hbq⟩, rfl⟩)
      replace hb := bel_trans hb hbq
      clear hbq cx
      go_wp2
      go_ret
      exact ⟨rfl, (by repeat (first | assumption | exact Below.refl _ _ | refine bel_alloc ?_ _ | refine bel_drewN ?_ _ | refine bel_drew ?_ | refine bel_trans ?_ (by assumption)))⟩
    · have dk : (k == 4) = false := by simpa using hk
      clear hk
      go_wp2
      (refine wp_region_ext (by kernel_rfl) (by kernel_rfl) ?_; (try dsimp only [List.append]); (repeat (go_big_quiet_step (first | (go_at_call 21; exact ext_call (hE.out _)) | (go_at_call 23; exact ext_call (hG.out _)) | (go_at_call 22; exact ext_call (hP.out _))))); refine wpQuiet_nil ?_; rintro _ ⟨⟨wq, hbq⟩, rfl⟩)
      replace hb := bel_trans hb hbq
      replace HO := OpAt.below HO hbq
      clear hx hbq cx e4 e5 e6
      have hx := HO
      unfold OpAt at hx
      clear hx
      have cx := HO.ext
      unfold OpAt at cx
      have a2 : IntKind.i64.wrap (f - 1) = f - 1 := IntWalk.i64_in _ (by omega)
      have a3 : IntKind.i64.wrap f = f := IntWalk.i64_in _ (by omega)
      go_wp2
      (refine wp_region_ext (by kernel_rfl) (by kernel_rfl) ?_; (try dsimp only [List.append]); (repeat (go_big_quiet_step (first | (go_at_call 24; exact ext_call (hN'.out _)) | (go_at_call 25; exact ext_call (hPg.out _)) | (go_at_call 22; exact ext_call (hPl.out _)) | (go_at_call 26; exact ext_call (hE'.out _)) | (go_at_call 21; exact ext_call (hE.out _)) | (go_at_call 27; exact ext_call (hG'.out _)) | (go_at_call 23; exact ext_call (hG.out _)) | (go_at_call 28; exact ext_call (hD.out _)) | (go_at_call 29; exact ext_call (hB.out _)) | (go_at_call 30; exact ext_call (hEn.out _)) | (go_at_call 31; exact ext_call (hFu.out _)) | (go_at_call 32; exact ext_call (alive_any _))))); refine wpQuiet_nil ?_; rintro _ ⟨⟨wq, hbq⟩, rfl⟩)
      replace hb := bel_trans hb hbq
      clear hbq cx
      go_wp2
      go_ret
      exact ⟨rfl, (by repeat (first | assumption | exact Below.refl _ _ | refine bel_alloc ?_ _ | refine bel_drewN ?_ _ | refine bel_drew ?_ | refine bel_trans ?_ (by assumption)))⟩
  · rcases hdd with ⟨hk, rfl⟩ | ⟨hk, rfl⟩
    · have dk : (k == 4) = true := by simpa using hk
      clear hk
      go_wp2
      (refine wp_region_ext (by kernel_rfl) (by kernel_rfl) ?_; (try dsimp only [List.append]); (repeat (go_big_quiet_step (first | (go_at_call 21; exact ext_call (hE.out _)) | (go_at_call 23; exact ext_call (hG.out _)) | (go_at_call 22; exact ext_call (hP.out _))))); refine wpQuiet_nil ?_; rintro _ ⟨⟨wq, hbq⟩, rfl⟩)
      replace hb := bel_trans hb hbq
      replace HO := OpAt.below HO hbq
      clear hx hbq cx e4 e5 e6
      have hx := HO
      unfold OpAt at hx
      clear hx
      have cx := HO.ext
      unfold OpAt at cx
      have a2 : IntKind.i64.wrap (f - 1) = f - 1 := IntWalk.i64_in _ (by omega)
      have a3 : IntKind.i64.wrap f = f := IntWalk.i64_in _ (by omega)
      have a4 : IntKind.i64.wrap (n.tdiv 2) = n / 2 := by rw [Int.tdiv_eq_ediv_of_nonneg (by omega), IntWalk.i64_in _ (by omega)]
      have a5 : IntKind.i64.wrap (n / 2 + 2) = n / 2 + 2 := IntWalk.i64_in _ (by omega)
      go_wp2
      (refine wp_region_ext (by kernel_rfl) (by kernel_rfl) ?_; (try dsimp only [List.append]); (repeat (go_big_quiet_step (first | (go_at_call 24; exact ext_call (hN'.out _)) | (go_at_call 25; exact ext_call (hPg.out _)) | (go_at_call 22; exact ext_call (hPl.out _)) | (go_at_call 26; exact ext_call (hE'.out _)) | (go_at_call 21; exact ext_call (hE.out _)) | (go_at_call 27; exact ext_call (hG'.out _)) | (go_at_call 23; exact ext_call (hG.out _)) | (go_at_call 28; exact ext_call (hD.out _)) | (go_at_call 29; exact ext_call (hB.out _)) | (go_at_call 30; exact ext_call (hEn.out _)) | (go_at_call 31; exact ext_call (hFu.out _)) | (go_at_call 32; exact ext_call (alive_any _))))); refine wpQuiet_nil ?_; rintro _ ⟨⟨wq, hbq⟩, rfl⟩)
      replace hb := bel_trans hb hbq
      clear hbq cx
      go_wp2
      go_ret
      exact ⟨rfl, (by repeat (first | assumption | exact Below.refl _ _ | refine bel_alloc ?_ _ | refine bel_drewN ?_ _ | refine bel_drew ?_ | refine bel_trans ?_ (by assumption)))⟩
    · have dk : (k == 4) = false := by simpa using hk
      clear hk
      go_wp2
      (refine wp_region_ext (by kernel_rfl) (by kernel_rfl) ?_; (try dsimp only [List.append]); (repeat (go_big_quiet_step (first | (go_at_call 21; exact ext_call (hE.out _)) | (go_at_call 23; exact ext_call (hG.out _)) | (go_at_call 22; exact ext_call (hP.out _))))); refine wpQuiet_nil ?_; rintro _ ⟨⟨wq, hbq⟩, rfl⟩)
      replace hb := bel_trans hb hbq
      replace HO := OpAt.below HO hbq
      clear hx hbq cx e4 e5 e6
      have hx := HO
      unfold OpAt at hx
      clear hx
      have cx := HO.ext
      unfold OpAt at cx
      have a2 : IntKind.i64.wrap (f - 1) = f - 1 := IntWalk.i64_in _ (by omega)
      have a3 : IntKind.i64.wrap f = f := IntWalk.i64_in _ (by omega)
      have a4 : IntKind.i64.wrap (n.tdiv 2) = n / 2 := by rw [Int.tdiv_eq_ediv_of_nonneg (by omega), IntWalk.i64_in _ (by omega)]
      have a5 : IntKind.i64.wrap (n / 2 + 2) = n / 2 + 2 := IntWalk.i64_in _ (by omega)
      go_wp2
      (refine wp_region_ext (by kernel_rfl) (by kernel_rfl) ?_; (try dsimp only [List.append]); (repeat (go_big_quiet_step (first | (go_at_call 24; exact ext_call (hN'.out _)) | (go_at_call 25; exact ext_call (hPg.out _)) | (go_at_call 22; exact ext_call (hPl.out _)) | (go_at_call 26; exact ext_call (hE'.out _)) | (go_at_call 21; exact ext_call (hE.out _)) | (go_at_call 27; exact ext_call (hG'.out _)) | (go_at_call 23; exact ext_call (hG.out _)) | (go_at_call 28; exact ext_call (hD.out _)) | (go_at_call 29; exact ext_call (hB.out _)) | (go_at_call 30; exact ext_call (hEn.out _)) | (go_at_call 31; exact ext_call (hFu.out _)) | (go_at_call 32; exact ext_call (alive_any _))))); refine wpQuiet_nil ?_; rintro _ ⟨⟨wq, hbq⟩, rfl⟩)
      replace hb := bel_trans hb hbq
      clear hbq cx
      go_wp2
      go_ret
      exact ⟨rfl, (by repeat (first | assumption | exact Below.refl _ _ | refine bel_alloc ?_ _ | refine bel_drewN ?_ _ | refine bel_drew ?_ | refine bel_trans ?_ (by assumption)))⟩
end Go.Proofs.Ytobecmablabmeaa.Need
