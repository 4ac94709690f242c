/- The walk by reckoned steps: more. Keys and entries as data; their order (cmp.Compare, cmp.Or, key.Compare, key.Less, the reference's Less). -/
import Derived.Test.YtaghmffgoomebaaGreatTab
set_option linter.unusedVariables false
set_option linter.unusedSimpArgs false
namespace Go.Proofs.YtaghmffgoomebaaGreat.Gx
open Go.RowKit Mem
structure Later (p : Prop) : Prop where
 out : p
theorem gG {p q : Prop} (g : q) (h : Later q → p := by
 intro h
 (first | refine zke ?_ | refine zeY true hT rfl rfl rfl sI ?_ | refine zfz rfl rfl ?_ | refine zd2 rfl rfl ?_ | refine zcl rfl ?_ | refine zbb rfl rfl ?_ | refine zbc rfl rfl ?_ | refine g_yd rfl rfl (zaf hT rfl rfl mE rfl rfl) ?_ | refine g_yd rfl rfl (zbu hT rfl rfl mE rfl rfl) ?_ | refine g_yd rfl rfl (zbA hT rfl rfl mE rfl rfl) ?_ | refine g_yd rfl rfl (zfq rfl rfl rfl rfl rfl (by kernel_rfl)) ?_ | refine g_yd rfl rfl (zfp rfl rfl rfl rfl rfl (by kernel_rfl)) ?_ | refine g_yd rfl rfl (zcR hT rfl rfl rfl sI rfl) ?_ | refine g_yd rfl rfl (zbz hT rfl rfl rfl rfl) ?_ | refine g_yd rfl rfl (zbB hT rfl rfl rfl rfl rfl rfl) ?_ | (refine g_mv rfl ?_; first | (refine zaT rfl rfl rfl rfl ?_) | (refine zay rfl hT rfl rfl ?_) | refine zat hT rfl rfl rfl rfl rfl rfl sO rfl ?_ | (refine zaa rfl hT rfl rfl rfl rfl rfl rfl rfl rfl ?_)) | refine g_yd rfl rfl (Ys.yd (zbX hT rfl rfl rfl rfl)) ?_ | refine g_yd rfl rfl (Ys.yd (zbW hT rfl rfl rfl rfl)) ?_)
 repeat (first | refine zke ?_ | refine zeY true hT rfl rfl rfl sI ?_ | refine zfz rfl rfl ?_ | refine zd2 rfl rfl ?_ | refine zcl rfl ?_ | refine zbb rfl rfl ?_ | refine zbc rfl rfl ?_ | refine g_yd rfl rfl (zaf hT rfl rfl mE rfl rfl) ?_ | refine g_yd rfl rfl (zbu hT rfl rfl mE rfl rfl) ?_ | refine g_yd rfl rfl (zbA hT rfl rfl mE rfl rfl) ?_ | refine g_yd rfl rfl (zfq rfl rfl rfl rfl rfl (by kernel_rfl)) ?_ | refine g_yd rfl rfl (zfp rfl rfl rfl rfl rfl (by kernel_rfl)) ?_ | refine g_yd rfl rfl (zcR hT rfl rfl rfl sI rfl) ?_ | refine g_yd rfl rfl (zbz hT rfl rfl rfl rfl) ?_ | refine g_yd rfl rfl (zbB hT rfl rfl rfl rfl rfl rfl) ?_ | (refine g_mv rfl ?_; first | (refine zaT rfl rfl rfl rfl ?_) | (refine zay rfl hT rfl rfl ?_) | refine zat hT rfl rfl rfl rfl rfl rfl sO rfl ?_ | (refine zaa rfl hT rfl rfl rfl rfl rfl rfl rfl rfl ?_)) | refine g_yd rfl rfl (Ys.yd (zbX hT rfl rfl rfl rfl)) ?_ | refine g_yd rfl rfl (Ys.yd (zbW hT rfl rfl rfl rfl)) ?_)
 exact h.out) : p := h ⟨g⟩
theorem gH {p q : Prop} (g : q) (h : Later q → p := by
 intro h
 (first | refine zke ?_ | refine zeY true hT rfl rfl rfl sI ?_ | refine zfz rfl rfl ?_ | refine zd2 rfl rfl ?_ | refine zcl rfl ?_ | refine zbb rfl rfl ?_ | refine zbc rfl rfl ?_ | refine g_yd rfl rfl (zaf hT rfl rfl mE rfl rfl) ?_ | refine g_yd rfl rfl (zbu hT rfl rfl mE rfl rfl) ?_ | refine g_yd rfl rfl (zbA hT rfl rfl mE rfl rfl) ?_ | refine g_yd rfl rfl (zfq rfl rfl rfl rfl rfl (by kernel_rfl)) ?_ | refine g_yd rfl rfl (zfp rfl rfl rfl rfl rfl (by kernel_rfl)) ?_ | refine g_yd rfl rfl (zcR hT rfl rfl rfl sI rfl) ?_ | refine g_yd rfl rfl (zbz hT rfl rfl rfl rfl) ?_ | refine g_yd rfl rfl (zbB hT rfl rfl rfl rfl rfl rfl) ?_ | (refine g_mv rfl ?_; first | (refine zaT rfl rfl rfl rfl ?_) | (refine zay rfl hT rfl rfl ?_) | refine zat hT rfl rfl rfl rfl rfl rfl sO rfl ?_ | (refine zaa rfl hT rfl rfl rfl rfl rfl rfl rfl rfl ?_)) | refine g_yd rfl rfl (Ys.yd (zbX hT rfl rfl rfl rfl)) ?_ | refine g_yd rfl rfl (Ys.yd (zbW hT rfl rfl rfl rfl)) ?_ | refine zd1 rfl rfl tE (fun _ => ?_) (fun hx => by first | (exfalso; omega) | exact absurd rfl hx | (cases hx; done)) | refine zd1 rfl rfl tE (fun hx => by first | (exfalso; omega) | exact absurd rfl hx | (cases hx; done)) (fun _ => ?_) | refine zaJ rfl rfl tE (fun _ => ?_) (fun hx => by first | (exfalso; omega) | exact absurd rfl hx | (cases hx; done)) | refine zaJ rfl rfl tE (fun hx => by first | (exfalso; omega) | exact absurd rfl hx | (cases hx; done)) (fun _ => ?_))
 repeat (first | refine zke ?_ | refine zeY true hT rfl rfl rfl sI ?_ | refine zfz rfl rfl ?_ | refine zd2 rfl rfl ?_ | refine zcl rfl ?_ | refine zbb rfl rfl ?_ | refine zbc rfl rfl ?_ | refine g_yd rfl rfl (zaf hT rfl rfl mE rfl rfl) ?_ | refine g_yd rfl rfl (zbu hT rfl rfl mE rfl rfl) ?_ | refine g_yd rfl rfl (zbA hT rfl rfl mE rfl rfl) ?_ | refine g_yd rfl rfl (zfq rfl rfl rfl rfl rfl (by kernel_rfl)) ?_ | refine g_yd rfl rfl (zfp rfl rfl rfl rfl rfl (by kernel_rfl)) ?_ | refine g_yd rfl rfl (zcR hT rfl rfl rfl sI rfl) ?_ | refine g_yd rfl rfl (zbz hT rfl rfl rfl rfl) ?_ | refine g_yd rfl rfl (zbB hT rfl rfl rfl rfl rfl rfl) ?_ | (refine g_mv rfl ?_; first | (refine zaT rfl rfl rfl rfl ?_) | (refine zay rfl hT rfl rfl ?_) | refine zat hT rfl rfl rfl rfl rfl rfl sO rfl ?_ | (refine zaa rfl hT rfl rfl rfl rfl rfl rfl rfl rfl ?_)) | refine g_yd rfl rfl (Ys.yd (zbX hT rfl rfl rfl rfl)) ?_ | refine g_yd rfl rfl (Ys.yd (zbW hT rfl rfl rfl rfl)) ?_ | refine zd1 rfl rfl tE (fun _ => ?_) (fun hx => by first | (exfalso; omega) | exact absurd rfl hx | (cases hx; done)) | refine zd1 rfl rfl tE (fun hx => by first | (exfalso; omega) | exact absurd rfl hx | (cases hx; done)) (fun _ => ?_) | refine zaJ rfl rfl tE (fun _ => ?_) (fun hx => by first | (exfalso; omega) | exact absurd rfl hx | (cases hx; done)) | refine zaJ rfl rfl tE (fun hx => by first | (exfalso; omega) | exact absurd rfl hx | (cases hx; done)) (fun _ => ?_))
 exact h.out) : p := h ⟨g⟩
theorem gS {p a b : Prop} (g : a) (l : b) (h : Later a → Later b → p := by intro h i; first | exact zd1 rfl rfl tE h.out i.out | exact zaJ rfl rfl tE h.out i.out) : p := h ⟨g⟩ ⟨l⟩
theorem gO {p q : Prop} (j : Nat) (g : q) (h : ∀ i, i = j → Later q → p := by intro i e h; refine gPe e ?_; refine zat hT rfl rfl rfl rfl rfl rfl sO rfl ?_; refine ⟨sF, ?_⟩; exact h.out) : p := h j rfl ⟨g⟩
theorem gX {p : Prop} {q : Nat → Prop} (j : Nat) (g : ∀ n, q n) (h : ∀ i, i = j → (∀ n, Later (q n)) → p := by intro i e h; refine gPe e ?_; (first | refine zaT rfl rfl rfl rfl ?_ | refine zay rfl hT rfl rfl ?_ | refine zaa rfl hT rfl rfl rfl rfl rfl rfl rfl rfl ?_); intro n; refine ⟨sF, ?_⟩; exact (h n).out) : p := h j rfl fun n => ⟨g n⟩
theorem gG1 {p q : Prop} (g : q) (h : Later q → p := by
 intro h
 (first | refine zke ?_ | refine zeY true hT rfl rfl rfl sI ?_ | refine zfz rfl rfl ?_ | refine zd2 rfl rfl ?_ | refine zcl rfl ?_ | refine zbb rfl rfl ?_ | refine zbc rfl rfl ?_ | refine g_yd rfl rfl (zaf hT rfl rfl mE rfl rfl) ?_ | refine g_yd rfl rfl (zbu hT rfl rfl mE rfl rfl) ?_ | refine g_yd rfl rfl (zbA hT rfl rfl mE rfl rfl) ?_ | refine g_yd rfl rfl (zfq rfl rfl rfl rfl rfl (by kernel_rfl)) ?_ | refine g_yd rfl rfl (zfp rfl rfl rfl rfl rfl (by kernel_rfl)) ?_ | refine g_yd rfl rfl (zcR hT rfl rfl rfl sI rfl) ?_ | refine g_yd rfl rfl (zbz hT rfl rfl rfl rfl) ?_ | refine g_yd rfl rfl (zbB hT rfl rfl rfl rfl rfl rfl) ?_ | (refine g_mv rfl ?_; first | (refine zaT rfl rfl rfl rfl ?_) | (refine zay rfl hT rfl rfl ?_) | refine zat hT rfl rfl rfl rfl rfl rfl sO rfl ?_) | refine g_yd rfl rfl (Ys.yd (zbX hT rfl rfl rfl rfl)) ?_ | refine g_yd rfl rfl (Ys.yd (zbW hT rfl rfl rfl rfl)) ?_)
 repeat (first | refine zke ?_ | refine zeY true hT rfl rfl rfl sI ?_ | refine zfz rfl rfl ?_ | refine zd2 rfl rfl ?_ | refine zcl rfl ?_ | refine zbb rfl rfl ?_ | refine zbc rfl rfl ?_ | refine g_yd rfl rfl (zaf hT rfl rfl mE rfl rfl) ?_ | refine g_yd rfl rfl (zbu hT rfl rfl mE rfl rfl) ?_ | refine g_yd rfl rfl (zbA hT rfl rfl mE rfl rfl) ?_ | refine g_yd rfl rfl (zfq rfl rfl rfl rfl rfl (by kernel_rfl)) ?_ | refine g_yd rfl rfl (zfp rfl rfl rfl rfl rfl (by kernel_rfl)) ?_ | refine g_yd rfl rfl (zcR hT rfl rfl rfl sI rfl) ?_ | refine g_yd rfl rfl (zbz hT rfl rfl rfl rfl) ?_ | refine g_yd rfl rfl (zbB hT rfl rfl rfl rfl rfl rfl) ?_ | (refine g_mv rfl ?_; first | (refine zaT rfl rfl rfl rfl ?_) | (refine zay rfl hT rfl rfl ?_) | refine zat hT rfl rfl rfl rfl rfl rfl sO rfl ?_) | refine g_yd rfl rfl (Ys.yd (zbX hT rfl rfl rfl rfl)) ?_ | refine g_yd rfl rfl (Ys.yd (zbW hT rfl rfl rfl rfl)) ?_)
 exact h.out) : p := h ⟨g⟩
end Go.Proofs.YtaghmffgoomebaaGreat.Gx
namespace Go.Proofs.YtaghmffgoomebaaGreat.Nd
open Go.RowKit Mem Gx
set_option maxRecDepth 100000
set_option maxHeartbeats 4000000
structure KeyD where
 v : Int
 b : Int
 s : Int
structure EntD where
 k : KeyD
 a : Int
instance : Inhabited KeyD := ⟨⟨0, 0, 0⟩⟩
instance : Inhabited EntD := ⟨⟨⟨0, 0, 0⟩, 0⟩⟩
def KE : KeyD → Nat → Value
 | x, 0 => .int .u16 x.v
 | x, 1 => .int .u32 x.b
 | x, _ + 2 => .int .u64 x.s
def EE : EntD → Nat → Value
 | x, 0 => .int .u16 x.k.v
 | x, 1 => .int .u32 x.k.b
 | x, 2 => .int .u64 x.k.s
 | x, _ + 3 => .int .u32 x.a
abbrev KeyD.val (x : KeyD) : Value := .agg #[.int .u16 x.v, .int .u32 x.b, .int .u64 x.s]
abbrev EntD.val (x : EntD) : Value := .agg #[.int .u16 x.k.v, .int .u32 x.k.b, .int .u64 x.k.s, .int .u32 x.a]
structure KeyD.Bd (x : KeyD) : Prop where
 v : 0 ≤ x.v ∧ x.v < 65536
 b : 0 ≤ x.b ∧ x.b < 4294967296
 s : 0 ≤ x.s ∧ x.s < 18446744073709551616
def klt (x y : KeyD) : Prop := x.v < y.v ∨ (x.v = y.v ∧ (x.b < y.b ∨ (x.b = y.b ∧ x.s < y.s)))
instance (x y : KeyD) : Decidable (klt x y) := by unfold klt; infer_instance
noncomputable def kcmp (x y : KeyD) : Int := if tB (klt x y) = true then -1 else if tB (klt y x) = true then 1 else 0
theorem zeR {x y : KeyD} (h1 : x.v = y.v) (h2 : x.b = y.b) (h3 : x.s = y.s) : x = y := by
 cases x; cases y; simp_all
theorem zgi (x y : KeyD) : kcmp x y < 0 ↔ klt x y := by
 unfold kcmp
 by_cases h : klt x y
 ·rw [if_pos (zan h)]; exact ⟨fun _ => h, fun _ => by decide⟩
 ·rw [if_neg (by rw [zaj h]; decide)]
  split <;> exact ⟨fun h' => by omega, fun h' => absurd h' h⟩
theorem zhl (x y : KeyD) : kcmp x y = 0 ↔ x = y := by
 unfold kcmp
 by_cases h : klt x y
 ·rw [if_pos (zan h)]
  refine ⟨fun h' => by omega, fun e => ?_⟩
  subst e
  unfold klt at h
  omega
 ·rw [if_neg (by rw [zaj h]; decide)]
  by_cases h2 : klt y x
  ·rw [if_pos (zan h2)]
   refine ⟨fun h' => by omega, fun e => ?_⟩
   subst e
   exact absurd h2 h
  ·rw [if_neg (by rw [zaj h2]; decide)]
   refine ⟨fun _ => ?_, fun _ => rfl⟩
   unfold klt at h h2
   exact zeR (by omega) (by omega) (by omega)
noncomputable def icmp (a b : Int) : Int := if tB (a < b) = true then -1 else if tB (b < a) = true then 1 else 0
theorem zhe (a : Int) (w : World) : Calls Tryz.prog 132 [.int .u16 a].toArray w fun e w' => e = .returned (.bool false) ∧ Below w.heap.size w w' := by
 refine zab T [] [] [] Tryz.func132 rfl Tryz.ntmps132 rfl (Kn.start _) ?_
 (repeat (refine gG ?_; try intro _))
 refine zad hT rfl rfl (.tmp rfl .nil) (fun w' hk => ?_)
 exact ⟨by rw [show tB (¬ a = a) = false from zaj (fun h => h rfl)]; rfl, hk.toBelow⟩
theorem zhd (a : Int) (w : World) : Calls Tryz.prog 133 [.int .u32 a].toArray w fun e w' => e = .returned (.bool false) ∧ Below w.heap.size w w' := by
 refine zab T [] [] [] Tryz.func133 rfl Tryz.ntmps133 rfl (Kn.start _) ?_
 (repeat (refine gG ?_; try intro _))
 refine zad hT rfl rfl (.tmp rfl .nil) (fun w' hk => ?_)
 exact ⟨by rw [show tB (¬ a = a) = false from zaj (fun h => h rfl)]; rfl, hk.toBelow⟩
theorem zhc (a : Int) (w : World) : Calls Tryz.prog 134 [.int .u64 a].toArray w fun e w' => e = .returned (.bool false) ∧ Below w.heap.size w w' := by
 refine zab T [] [] [] Tryz.func134 rfl Tryz.ntmps134 rfl (Kn.start _) ?_
 (repeat (refine gG ?_; try intro _))
 refine zad hT rfl rfl (.tmp rfl .nil) (fun w' hk => ?_)
 exact ⟨by rw [show tB (¬ a = a) = false from zaj (fun h => h rfl)]; rfl, hk.toBelow⟩
theorem zdY {a b : Int} (h : a < b) : icmp a b = -1 := by unfold icmp; rw [if_pos (zan h)]
theorem zdZ {a b : Int} (h : b < a) : icmp a b = 1 := by unfold icmp; rw [if_neg (by rw [zaj (by omega)]; decide), if_pos (zan h)]
theorem zd0 {a b : Int} (h : a = b) : icmp a b = 0 := by unfold icmp; rw [if_neg (by rw [zaj (by omega)]; decide), if_neg (by rw [zaj (by omega)]; decide)]
theorem zhL {k : IntKind} {a b : Int} (h : a = b) : Ending.returned (.int k a) = .returned (.int k b) := by rw [h]
theorem zmB (a b : Int) (w : World) : Calls Tryz.prog 118 [.int .u16 a, .int .u16 b].toArray w fun e w' => e = .returned (.int .i64 (icmp a b)) ∧ Below w.heap.size w w' := by
 refine zab T [] [] [] Tryz.func118 rfl Tryz.ntmps118 rfl (Kn.start _) ?_
 (repeat' (first | (refine gH ?_; try intro _) | (refine g_mv rfl ?_; refine cb (fun w hk => zhe a w) ?_) | (refine g_mv rfl ?_; refine cb (fun w hk => zhe b w) ?_) | (refine gS ?_ ?_ <;> intro _) | fail))
 all_goals (refine zad hT rfl rfl (.tmp rfl .nil) (fun w' hk => ?_); refine ⟨zhL ?_, hk.toBelow⟩)
 all_goals first
  | exact (zdY (by omega)).symm
  | exact (zdZ (by omega)).symm
  | exact (zd0 (by omega)).symm
theorem zmA (a b : Int) (w : World) : Calls Tryz.prog 119 [.int .u32 a, .int .u32 b].toArray w fun e w' => e = .returned (.int .i64 (icmp a b)) ∧ Below w.heap.size w w' := by
 refine zab T [] [] [] Tryz.func119 rfl Tryz.ntmps119 rfl (Kn.start _) ?_
 (repeat' (first | (refine gH ?_; try intro _) | (refine g_mv rfl ?_; refine cb (fun w hk => zhd a w) ?_) | (refine g_mv rfl ?_; refine cb (fun w hk => zhd b w) ?_) | (refine gS ?_ ?_ <;> intro _) | fail))
 all_goals (refine zad hT rfl rfl (.tmp rfl .nil) (fun w' hk => ?_); refine ⟨zhL ?_, hk.toBelow⟩)
 all_goals first
  | exact (zdY (by omega)).symm
  | exact (zdZ (by omega)).symm
  | exact (zd0 (by omega)).symm
theorem zmz (a b : Int) (w : World) : Calls Tryz.prog 120 [.int .u64 a, .int .u64 b].toArray w fun e w' => e = .returned (.int .i64 (icmp a b)) ∧ Below w.heap.size w w' := by
 refine zab T [] [] [] Tryz.func120 rfl Tryz.ntmps120 rfl (Kn.start _) ?_
 (repeat' (first | (refine gH ?_; try intro _) | (refine g_mv rfl ?_; refine cb (fun w hk => zhc a w) ?_) | (refine g_mv rfl ?_; refine cb (fun w hk => zhc b w) ?_) | (refine gS ?_ ?_ <;> intro _) | fail))
 all_goals (refine zad hT rfl rfl (.tmp rfl .nil) (fun w' hk => ?_); refine ⟨zhL ?_, hk.toBelow⟩)
 all_goals first
  | exact (zdY (by omega)).symm
  | exact (zdZ (by omega)).symm
  | exact (zd0 (by omega)).symm
def or3 (a b c : Int) : Int := if a = 0 then if b = 0 then c else b else a
theorem or_any (g : Nat) (a b c : Int) (w : World) (h : Sl w (some ⟨g, 0, none⟩) 1 (IE .i64) [a, b, c]) : Calls Tryz.prog 117 [.slice (some ⟨g, 0, none⟩) 3 3].toArray w fun e w' => e = .returned (.int .i64 (or3 a b c)) ∧ Below w.heap.size w w' := by
 refine zab T [] [] [sl (some ⟨g, 0, none⟩) 1 (IE .i64) [a, b, c]] Tryz.func117 rfl Tryz.ntmps117 rfl ((Kn.start w).argR h (by decide) (fun _ h => by cases h)) ?_
 refine zar (enc := IE .i64) (L := [a, b, c]) 0 mE (by simp) (by decide) (fun b0 o0 y0 eA hy0 => ?_)
 obtain ⟨rfl, rfl⟩ : g = b0 ∧ 0 = o0 := by injection eA with e; injection e with e1 e2; exact ⟨e1, e2⟩
 clear eA
 refine zar (enc := IE .i64) (L := [a, b, c]) 1 mE (by simp) (by decide) (fun b0 o0 y1 eA hy1 => ?_)
 obtain ⟨rfl, rfl⟩ : g = b0 ∧ 0 = o0 := by injection eA with e; injection e with e1 e2; exact ⟨e1, e2⟩
 clear eA
 refine zar (enc := IE .i64) (L := [a, b, c]) 2 mE (by simp) (by decide) (fun b0 o0 y2 eA hy2 => ?_)
 obtain ⟨rfl, rfl⟩ : g = b0 ∧ 0 = o0 := by injection eA with e; injection e with e1 e2; exact ⟨e1, e2⟩
 clear eA
 obtain rfl : a = y0 := by simpa using hy0
 obtain rfl : b = y1 := by simpa using hy1
 obtain rfl : c = y2 := by simpa using hy2
 clear hy0 hy1 hy2
 (repeat (refine gG ?_; try intro _))
 refine zeW 3 rfl ?_
 by_cases ha : a = 0
 ·(repeat' (first | (refine gH ?_; try intro _) | (refine gS ?_ ?_ <;> intro _) | fail))
  refine zh9 rfl ?_
  by_cases hb : b = 0
  ·(repeat' (first | (refine gH ?_; try intro _) | (refine gS ?_ ?_ <;> intro _) | fail))
   refine zh9 rfl ?_
   by_cases hc : c = 0
   ·(repeat' (first | (refine gH ?_; try intro _) | (refine gS ?_ ?_ <;> intro _) | fail))
    refine zh9 rfl ?_
    (repeat' (first | (refine gH ?_; try intro _) | (refine gS ?_ ?_ <;> intro _) | fail))
    refine zad hT rfl rfl (.tmp rfl .nil) (fun w' hk => ?_)
    exact ⟨zhL (by unfold or3; rw [if_pos ha, if_pos hb, hc]), hk.toBelow⟩
   ·(repeat' (first | (refine gH ?_; try intro _) | (refine gS ?_ ?_ <;> intro _) | fail))
    refine zad hT rfl rfl (.tmp rfl .nil) (fun w' hk => ?_)
    exact ⟨zhL (by unfold or3; rw [if_pos ha, if_pos hb]), hk.toBelow⟩
  ·(repeat' (first | (refine gH ?_; try intro _) | (refine gS ?_ ?_ <;> intro _) | fail))
   refine zad hT rfl rfl (.tmp rfl .nil) (fun w' hk => ?_)
   exact ⟨zhL (by unfold or3; rw [if_pos ha, if_neg hb]), hk.toBelow⟩
 ·(repeat' (first | (refine gH ?_; try intro _) | (refine gS ?_ ?_ <;> intro _) | fail))
  refine zad hT rfl rfl (.tmp rfl .nil) (fun w' hk => ?_)
  exact ⟨zhL (by unfold or3; rw [if_neg ha]), hk.toBelow⟩
theorem znp (x y : KeyD) : or3 (icmp x.v y.v) (icmp x.b y.b) (icmp x.s y.s) = kcmp x y := by
 unfold or3 kcmp
 rcases Int.lt_trichotomy x.v y.v with h | h | h
 ·rw [zdY h, if_neg (by decide), if_pos (zan (by unfold klt; omega))]
 ·rw [zd0 h, if_pos rfl]
  rcases Int.lt_trichotomy x.b y.b with h' | h' | h'
  ·rw [zdY h', if_neg (by decide), if_pos (zan (by unfold klt; omega))]
  ·rw [zd0 h', if_pos rfl]
   rcases Int.lt_trichotomy x.s y.s with h'' | h'' | h''
   ·rw [zdY h'', if_pos (zan (by unfold klt; omega))]
   ·rw [zd0 h'', if_neg (by rw [zaj (by unfold klt; omega)]; decide), if_neg (by rw [zaj (by unfold klt; omega)]; decide)]
   ·rw [zdZ h'', if_neg (by rw [zaj (by unfold klt; omega)]; decide), if_pos (zan (by unfold klt; omega))]
  ·rw [zdZ h', if_neg (by decide), if_neg (by rw [zaj (by unfold klt; omega)]; decide), if_pos (zan (by unfold klt; omega))]
 ·rw [zdZ h, if_neg (by decide), if_neg (by rw [zaj (by unfold klt; omega)]; decide), if_pos (zan (by unfold klt; omega))]
theorem zgj (x y : KeyD) (w : World) : Calls Tryz.prog 90 [x.val, y.val].toArray w fun e w' => e = .returned (.int .i64 (kcmp x y)) ∧ Below w.heap.size w w' := by
 refine zab T [] [] [] Tryz.func90 rfl Tryz.ntmps90 rfl (Kn.start _) ?_
 (repeat (refine gG ?_; try intro _))
 rename_i g2 g3
 refine zas [0, 1] (Cut _ (fun _ : Unit => [(4, .int .i64 (kcmp x y))]) (fun _ => []) (fun _ => [])) rfl rfl kR ?_ (zaD fun _ => ?_)
 ·skip
  refine gY hT 0 ?_
  refine gW hT 1 ?_
  refine gY hT 2 ?_
  refine gW hT 3 ?_
  refine gY hT 5 ?_
  refine gW hT 6 ?_
  refine gY hT 7 ?_
  refine gW hT 8 ?_
  refine gY hT 10 ?_
  refine gW hT 11 ?_
  refine gY hT 12 ?_
  refine gW hT 13 ?_
  refine gP 4 ?_
  refine zau (fun w hk => zmB x.v y.v w) rfl rfl rfl rfl rfl kR ?_
  refine ⟨sF, ?_⟩
  refine gP 9 ?_
  refine zau (fun w hk => zmA x.b y.b w) rfl rfl rfl rfl rfl kR ?_
  refine ⟨sF, ?_⟩
  refine gP 14 ?_
  refine zau (fun w hk => zmz x.s y.s w) rfl rfl rfl rfl rfl kR ?_
  refine ⟨sF, ?_⟩
  refine gP 15 ?_
  (refine zaa (len := 3) rfl hT rfl rfl rfl rfl rfl rfl rfl rfl ?_; intro g4)
  refine ⟨sF, ?_⟩
  refine gP 16 ?_
  refine zau (fun w hk => or_any g4 (icmp x.v y.v) (icmp x.b y.b) (icmp x.s y.s) w (zah (M := [icmp x.v y.v, icmp x.b y.b, icmp x.s y.s]) mE rfl w hk)) rfl rfl rfl rfl rfl kR ?_
  refine ⟨sF, ?_⟩
  refine gY hT 17 ?_
  try (refine zam 4 (.int .i64 (kcmp x y)) rfl (by rw [znp]) ?_)
  refine zak dK ?_
  exact ⟨(), fS, sA, List.nil_subset _⟩
 ·(repeat (refine gG ?_; try intro _))
  refine zad hT rfl rfl (.tmp rfl .nil) (fun w' hk => ?_)
  exact ⟨rfl, hk.toBelow⟩
theorem zb4 (x y : KeyD) (w : World) : Calls Tryz.prog 84 [x.val, y.val].toArray w fun e w' => e = .returned (.bool (tB (klt x y))) ∧ Below w.heap.size w w' := by
 refine zab T [] [] [] Tryz.func84 rfl Tryz.ntmps84 rfl (Kn.start _) ?_
 (repeat' (first | (refine gH ?_; try intro _) | (refine g_mv rfl ?_; refine cb (fun w hk => zgj x y w) ?_) | (refine gS ?_ ?_ <;> intro _) | fail))
 refine zad hT rfl rfl (.tmp rfl .nil) (fun w' hk => ?_)
 exact ⟨zcW (by rw [zaQ, zaQ, zgi]), hk.toBelow⟩
theorem zkO (x y : KeyD) (w : World) : Calls Tryz.prog 7 [x.val, y.val].toArray w fun e w' => e = .returned (.bool (tB (klt x y))) ∧ Below w.heap.size w w' := by
 refine zab T [] [] [] Tryz.func7 rfl Tryz.ntmps7 rfl (Kn.start _) ?_
 (repeat' (first | (refine gH ?_; try intro _) | (refine gS ?_ ?_ <;> intro _) | fail))
 all_goals (refine zad hT rfl rfl (.tmp rfl .nil) (fun w' hk => ?_); refine ⟨zcW ?_, hk.toBelow⟩; rw [zaQ, zaQ]; unfold klt; omega)
end Go.Proofs.YtaghmffgoomebaaGreat.Nd
