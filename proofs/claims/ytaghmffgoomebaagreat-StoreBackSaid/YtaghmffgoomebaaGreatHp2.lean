/- Runs of blocks, plain. refs.Table: Len, Sum, All. refs.Table within an Alloc. container/heap's up and down, at whatever interface value that is a heap. -/
import Derived.Test.YtaghmffgoomebaaGreatDd
import Derived.Test.YtaghmffgoomebaaGreatRf1
import Derived.Test.YtaghmffgoomebaaGreatTab
set_option linter.unusedVariables false
set_option linter.unusedSimpArgs false
namespace Go.Proofs.YtaghmffgoomebaaGreat.Ex
open Go.RowKit Mem Gx Dd
structure RunD where
 f : Int
 m : Int
instance : Inhabited RunD := ⟨⟨0, 0⟩⟩
def inr (b : Int) : Bool := decide (0 ≤ b ∧ b ≤ 4096)
def okR (e : Int) (r : RunD) : Prop := 1 ≤ r.m ∧ e < r.f ∧ 0 ≤ r.f ∧ r.m ≤ 4097 ∧ r.f ≤ 4096
def rightE : Int → List RunD → Prop
 | _, [] => True
 | e, r :: l => okR e r ∧ rightE (r.f + r.m) l
def endE : Int → List RunD → Int
 | e, [] => e
 | _, r :: l => endE (r.f + r.m) l
def expR (r : RunD) : List Int := (List.range r.m.toNat).map fun k : Nat => r.f + (k : Int)
def exp (l : List RunD) : List Int := l.flatMap expR
theorem zgv (l : List RunD) (r : RunD) : exp (l ++ [r]) = exp l ++ expR r := by simp [exp]
theorem zda (e : Int) (l : List RunD) (r : RunD) : rightE e (l ++ [r]) ↔ rightE e l ∧ okR (endE e l) r := by
 induction l generalizing e with
 | nil => simp [rightE, endE]
 | cons x l ih => simp only [List.cons_append, rightE, endE, ih, and_assoc]
theorem zmj (e : Int) (l : List RunD) (r : RunD) : endE e (l ++ [r]) = r.f + r.m := by
 induction l generalizing e with
 | nil => rfl
 | cons x l ih => exact ih _
def addR (out : List RunD) (b : Int) : List RunD :=
 if inr b then (match out.getLast? with
  | some r => if r.f + r.m = b then out.dropLast ++ [⟨r.f, r.m + 1⟩] else out ++ [⟨b, 1⟩]
  | none => out ++ [⟨b, 1⟩]) else out
def rlN (D : List Int) : Nat → List RunD
 | 0 => []
 | k + 1 => (match D[k]? with
   | some b => addR (rlN D k) b
   | none => rlN D k)
def rl (D : List Int) : List RunD := rlN D D.length
theorem zoq {out : List RunD} {b : Int} (h : inr b = false) : addR out b = out := by unfold addR; rw [h]; rfl
theorem zor {out : List RunD} {b : Int} (h : inr b = true) (h2 : ∀ r, out.getLast? = some r → r.f + r.m ≠ b) : addR out b = out ++ [⟨b, 1⟩] := by
 unfold addR
 rw [h, if_pos rfl]
 cases hl : out.getLast? with
 | none => rfl
 | some r => simp only; rw [if_neg (h2 r hl)]
theorem zmO {out : List RunD} {r : RunD} {b : Int} (h : inr b = true) (h2 : r.f + r.m = b) : addR (out ++ [r]) b = out ++ [⟨r.f, r.m + 1⟩] := by
 unfold addR
 rw [h, if_pos rfl]
 simp [h2]
theorem zmf (r : RunD) (h : 0 ≤ r.m) : expR ⟨r.f, r.m + 1⟩ = expR r ++ [r.f + r.m] := by
 unfold expR
 simp only
 rw [show (r.m + 1).toNat = r.m.toNat + 1 by omega, List.range_succ, List.map_append]
 simp
 omega
structure RInv (P : List Int) (R : List RunD) : Prop where
 right : rightE (-1) R
 ex : exp R = P.filter inr
 last : ∀ r, R.getLast? = some r → ∃ x ∈ P, x + 1 = r.f + r.m
theorem RInv.nil : RInv [] [] := ⟨trivial, rfl, fun r h => by simp at h⟩
theorem RInv.add {P : List Int} {R : List RunD} {b : Int} (h : RInv P R) (hb : ∀ x ∈ P, x < b) : RInv (P ++ [b]) (addR R b) := by
 cases hr : inr b with
 | false =>
   rw [zoq hr]
   refine ⟨h.right, ?_, fun r hl => ?_⟩
   ·rw [List.filter_append, ← h.ex]; simp [hr]
   ·obtain ⟨x, hx, e⟩ := h.last r hl
    exact ⟨x, List.mem_append_left _ hx, e⟩
 | true =>
   have hb2 : 0 ≤ b ∧ b ≤ 4096 := by simpa [inr] using hr
   have hf : (P ++ [b]).filter inr = exp R ++ [b] := by rw [List.filter_append, ← h.ex]; simp [hr]
   by_cases hl : ∃ r, R.getLast? = some r ∧ r.f + r.m = b
   ·obtain ⟨r, hl, e⟩ := hl
    obtain ⟨R0, rfl⟩ : ∃ R0, R = R0 ++ [r] := by
     rcases List.eq_nil_or_concat R with rfl | ⟨R0, r', rfl⟩
     ·simp at hl
     ·rw [List.concat_eq_append] at hl ⊢
      simp at hl
      exact ⟨R0, by rw [hl]⟩
    rw [zmO hr e]
    have hok := (zda _ _ _).1 h.right
    refine ⟨(zda _ _ _).2 ⟨hok.1, ?_⟩, ?_, fun r' hl' => ?_⟩
    ·obtain ⟨h1, h2, h3, h4, h5⟩ := hok.2
     exact ⟨by show 1 ≤ r.m + 1; omega, h2, h3, by show r.m + 1 ≤ 4097; omega, h5⟩
    ·rw [hf, zgv, zgv, zmf r (by have := hok.2.1; omega), e, List.append_assoc]
    ·simp at hl'
     subst hl'
     exact ⟨b, by simp, by show b + 1 = r.f + (r.m + 1); omega⟩
   ·have hl2 : ∀ r, R.getLast? = some r → r.f + r.m ≠ b := fun r h1 h2 => hl ⟨r, h1, h2⟩
    rw [zor hr hl2]
    refine ⟨(zda _ _ _).2 ⟨h.right, ?_⟩, ?_, fun r' hl' => ?_⟩
    ·refine ⟨Int.le_refl _, ?_, hb2.1, by show (1 : Int) ≤ 4097; omega, hb2.2⟩
     show endE (-1) R < b
     rcases List.eq_nil_or_concat R with rfl | ⟨R0, r, rfl⟩
     ·show (-1 : Int) < b; omega
     ·rw [List.concat_eq_append] at *
      rw [zmj]
      obtain ⟨x, hx, e⟩ := h.last r (by simp)
      have h1 := hb x hx
      have h2 := hl2 r (by simp)
      omega
    ·rw [hf, zgv]
     congr 1
     simp [expR]
    ·simp at hl'
     subst hl'
     exact ⟨b, by simp, rfl⟩
def srt (L : List Int) : List Int := L.mergeSort fun x y => decide (x ≤ y)
theorem zm8 (L : List Int) (i j : Nat) (x y : Int) (h : i ≤ j) (hx : (srt L)[i]? = some x) (hy : (srt L)[j]? = some y) : x ≤ y := by
 rcases Nat.eq_or_lt_of_le h with rfl | h
 ·rw [hx] at hy; injection hy with hy; omega
 ·have hp : (srt L).Pairwise fun x y => decide (x ≤ y) = true := by
   refine List.pairwise_mergeSort ?_ ?_ _
   ·intro a b c h1 h2
    simp only [decide_eq_true_eq] at *
    omega
   ·intro a b
    simp only [Bool.or_eq_true, decide_eq_true_eq]
    omega
  rw [List.pairwise_iff_getElem] at hp
  obtain ⟨hi, ex⟩ := List.getElem?_eq_some_iff.1 hx
  obtain ⟨hj, ey⟩ := List.getElem?_eq_some_iff.1 hy
  have := hp i j hi hj h
  rw [ex, ey] at this
  simpa using this
theorem zod {S : List Int} (hs : ∀ (i j : Nat) (x y : Int), i ≤ j → S[i]? = some x → S[j]? = some y → x ≤ y) (k : Nat) (hk : k ≤ S.length) : (ddN S k).Pairwise (fun x y => x < y) ∧ (∀ x ∈ ddN S k, k ≠ 0 ∧ ∀ y, S[k - 1]? = some y → x ≤ y) := by
 induction k with
 | zero => exact ⟨.nil, fun x h => by cases h⟩
 | succ k ih =>
   obtain ⟨b, hb⟩ : ∃ b, S[k]? = some b := ⟨_, List.getElem?_eq_getElem (by omega)⟩
   obtain ⟨h1, h2⟩ := ih (by omega)
   have h3 : ∀ x ∈ ddN S k, x ≤ b := fun x hx => by
    obtain ⟨h0, h4⟩ := h2 x hx
    obtain ⟨y, hy⟩ : ∃ y, S[k - 1]? = some y := ⟨_, List.getElem?_eq_getElem (by omega)⟩
    have := hs (k - 1) k y b (by omega) hy hb
    have := h4 y hy
    omega
   by_cases h : k ≠ 0 ∧ S[k - 1]? = some b
   ·rw [zjx hb h.1 h.2]
    exact ⟨h1, fun x hx => ⟨by omega, fun y hy => by rw [Nat.add_sub_cancel, hb] at hy; injection hy with hy; rw [← hy]; exact h3 x hx⟩⟩
   ·rw [zjy hb (by by_cases e : k = 0; exact .inl e; exact .inr fun h' => h ⟨e, h'⟩)]
    refine ⟨?_, fun x hx => ⟨by omega, fun y hy => ?_⟩⟩
    ·rw [List.pairwise_append]
     refine ⟨h1, List.pairwise_singleton _ _, fun x hx y hy => ?_⟩
     obtain rfl := m1 hy
     obtain ⟨h0, h4⟩ := h2 x hx
     obtain ⟨z, hz⟩ : ∃ z, S[k - 1]? = some z := ⟨_, List.getElem?_eq_getElem (by omega)⟩
     have h5 := hs (k - 1) k z y (by omega) hz hb
     have h6 := h4 z hz
     have h7 : z ≠ y := fun e => h ⟨h0, by rw [hz, e]⟩
     omega
    ·rw [Nat.add_sub_cancel, hb] at hy
     injection hy with hy
     subst hy
     rcases List.mem_append.1 hx with hx | hx
     ·exact h3 x hx
     ·obtain rfl := m1 hx; omega
end Go.Proofs.YtaghmffgoomebaaGreat.Ex
namespace Go.Proofs.YtaghmffgoomebaaGreat.Rf
open Go.RowKit Mem Gx KyU Dd
set_option maxRecDepth 100000
set_option maxHeartbeats 1000000
def setP (l : List Int) : List Int := dd (Ex.srt l)
theorem zgT (l : List Int) : (setP l).Pairwise (fun x y => x < y) := (Ex.zod (Ex.zm8 l) (Ex.srt l).length (Nat.le_refl _)).1
theorem zej {l : List Int} {x : Int} : x ∈ setP l ↔ x ∈ l := by
 unfold setP
 rw [mem_dd]
 exact (List.mergeSort_perm _ _).mem_iff
theorem zdy {l : List Int} (h : l.Pairwise (fun x y => x < y)) : l.Nodup := h.imp fun h => by omega
theorem RfI.keys {T : TabS} {l : List Int} (h : RfI T l) : (T.M.map (·.1)).Perm (setP l) := (List.perm_ext_iff_of_nodup h.map.nodup (zdy (zgT l))).2 fun k => by
 rw [zej]
 have h1 := h.map.get k
 have h2 := @zll _ _ k T.M
 rw [h1] at h2
 unfold cntV at h2
 by_cases hk : l.count k = 0
 ·rw [if_pos hk] at h2
  exact ⟨fun hm => absurd hm (h2.1 rfl), fun hm => absurd (List.count_pos_iff.2 hm) (by omega)⟩
 ·rw [if_neg hk] at h2
  refine ⟨fun _ => List.count_pos_iff.1 (by omega), fun _ => Classical.byContradiction fun hn => ?_⟩
  have := h2.2 hn
  cases this
end Go.Proofs.YtaghmffgoomebaaGreat.Rf
namespace Go.Proofs.YtaghmffgoomebaaGreat.Al
open Go.RowKit Mem Gx KyU Dd Rf
set_option maxRecDepth 100000
set_option maxHeartbeats 1000000
def moF : Option Nat → List (Int × Value) → Fact
 | none, M => ⟨fun _ => False, fun _ => M = [], fun _ _ _ h => h⟩
 | some r, M => mpk r (Value.int .u32) M
theorem oneU : ∀ (x : Int) (j : Nat), (IE .u32 x j).oneCell' = true := by intro x j; rfl
theorem zaO : Elt Tryz.prog 43 26 1 4 := Elt.mk' (z := .int .u32 0) Tryz.underlying43 kR rfl (by decide)
structure XA where
 f : Value
 u : Value
 v : Value
 n : Value
def tbL2 (t : Nat) (X : XA) (T : TabS) : List Fact := [blk t [X.f, .map T.r, .int .i64 T.sum, X.u, X.v, X.n] 100, moF T.r T.M]
abbrev tbF2 (t : Nat) (X : XA) (T : TabS) : Fact := packF (tbL2 t X T)
theorem fin2 (t : Nat) (X : XA) (T : TabS) : ∃ E : List Nat, ∀ b, (tbF2 t X T).S b ↔ b ∈ E := by
 obtain ⟨r, M, s⟩ := T
 cases r with
 | none => exact ⟨[t], fun b => ⟨fun ⟨φ, hφ, hb⟩ => by
  rcases List.mem_cons.1 hφ with rfl | hφ
  ·exact List.mem_singleton.2 hb
  ·obtain rfl := m1 hφ
   exact hb.elim, fun hb => ⟨_, .head _, m1 hb⟩⟩⟩
 | some r => exact ⟨[t, r], fun b => ⟨fun ⟨φ, hφ, hb⟩ => by
  rcases List.mem_cons.1 hφ with rfl | hφ
  ·have : b = t := hb
   rw [this]; exact .head _
  ·obtain rfl := m1 hφ
   have : b = r := hb
   rw [this]; exact .tail _ (.head _), fun hb => by
  rcases List.mem_cons.1 hb with rfl | hb
  ·exact ⟨_, .head _, rfl⟩
  ·obtain rfl := m1 hb
   exact ⟨_, .tail _ (.head _), rfl⟩⟩⟩
theorem zlM (t : Nat) (X : XA) (T : TabS) (l : List Int) (x : Int) (w : World) (hx : x ≠ 0) (hl9 : l.length < 1000) (hI : RfI T l) (h : Rd1 w (tbF2 t X T)) :
 Calls Tryz.prog 104 [.pointer (some ⟨t, 1, none⟩), .int .u32 x].toArray w (RetM (tbF2 t X T) (fun T' : TabS => RfI T' (l ++ [x])) (fun _ => .int .i64 ((l ++ [x]).count x : Int)) (fun T' => tbF2 t X T') w) := by
 obtain ⟨E, hE⟩ := fin2 t X T
 have hll := hI.len
 have hcn : l.count x ≤ l.length := List.count_le_length
 have hsum := hI.sum
 obtain ⟨r, M, s⟩ := T
 have key : ∀ (r' : Nat) (M0 : List (Int × Value)), MapIs M0 (cntV l) → RfI ⟨some r', msG x (.int .i64 (l.count x + 1 : Int)) M0, s + 1⟩ (l ++ [x]) := fun r' M0 hM => ⟨fun e => (by cases e), by show s + 1 = _; rw [List.length_append]; simp at hsum ⊢; omega, hM.set fun k' => by
  unfold cntV
  rw [zog]
  by_cases e : k' = x
  ·subst e; rw [if_pos rfl, if_pos rfl, if_neg (by omega)]; push_cast; rfl
  ·rw [if_neg e, if_neg e, Nat.add_zero], by rw [List.length_append]; simp; omega⟩
 cases r with
 | none =>
   have hnil := hI.nil rfl
   have hc0 : l.count x = 0 := by rw [hnil]; rfl
   have hs0 : s = 0 := by rw [show s = (l.length : Int) from hsum, hnil]; rfl
   refine zab T E [blk t [X.f, .map none, .int .i64 s, X.u, X.v, X.n] 100, moF none M] [] Tryz.func104 rfl Tryz.ntmps104 rfl (Kn.startP h (fun b hb => (hE b).1 hb) (fun _ h => by cases h)) ?_
   (repeat' (first | (refine gH ?_; try intro _) | (refine gS ?_ ?_ <;> intro _) | fail))
   refine g_yd rfl rfl (Ys.yd (zcQ hT rfl rfl rfl Tryz.underlying79)) ?_
   (repeat (refine gG ?_; try intro _))
   refine g_mv rfl (zdd rfl (Value.int .u32) rfl (fun r => ?_))
   (repeat (refine gG ?_; try intro _))
   have hI2 := key r [] (by rw [hnil]; exact MapIs.nil.congr fun k => by simp [cntV])
   refine g_yd rfl rfl ((zbY (S := [mpk r (Value.int .u32) []]) x rfl rfl rfl rfl Tryz.underlying79 zfl zfn (.head _)).ydS sF) ?_
   refine zaK 21 (.int .i64 (l.count x : Int)) rfl (by rw [hc0]; rfl) ?_
   (repeat (refine gG ?_; try intro _))
   refine g_mv rfl (zbV rfl x rfl rfl rfl rfl rfl Tryz.underlying79 zfl (by first | ((repeat (first | with_reducible exact Upd.here _ | with_reducible apply Upd.there)); done) | ((repeat (first | exact Upd.here _ | apply Upd.there)); done) | fail) ?_)
   (repeat (refine gG ?_; try intro _))
   refine g_yd rfl rfl ((zbY (S := [mpk r (Value.int .u32) (msG x (.int .i64 (l.count x + 1 : Int)) [])]) x rfl rfl rfl rfl Tryz.underlying79 zfl zfn (.head _)).ydS sF) ?_
   refine zaK 35 (.int .i64 ((l ++ [x]).count x : Int)) rfl (hI2.look x) ?_
   (repeat (refine gG ?_; try intro _))
   refine zad hT rfl rfl (.tmp rfl .nil) (fun w' hk => ?_)
   exact RetM.mkP (ll := fun T' => tbL2 t X T') (⟨some r, msG x (.int .i64 (l.count x + 1 : Int)) [], s + 1⟩ : TabS) hI2 rfl hk (fun b hb => (hE b).2 hb) (show SelAll [blk t [X.f, .map (some r), .int .i64 (s + 1), X.u, X.v, X.n] 100, mpk r (Value.int .u32) (msG x (.int .i64 (l.count x + 1 : Int)) [])] _ from sA)
 | some r =>
   have hI2 := key r M hI.map
   refine zab T E [blk t [X.f, .map (some r), .int .i64 s, X.u, X.v, X.n] 100, mpk r (Value.int .u32) M] [] Tryz.func104 rfl Tryz.ntmps104 rfl (Kn.startP h (fun b hb => (hE b).1 hb) (fun _ h => by cases h)) ?_
   have hsv : s = (l.length : Int) := hsum
   (repeat' (first | (refine gH ?_; try intro _) | (refine gS ?_ ?_ <;> intro _) | fail))
   refine g_yd rfl rfl (Ys.yd (zcQ hT rfl rfl rfl Tryz.underlying79)) ?_
   (repeat (refine gG ?_; try intro _))
   refine g_yd rfl rfl ((zbY (S := [mpk r (Value.int .u32) M]) x rfl rfl rfl rfl Tryz.underlying79 zfl zfn (.head _)).ydS sF) ?_
   refine zaK 21 (.int .i64 (l.count x : Int)) rfl (hI.look x) ?_
   (repeat (refine gG ?_; try intro _))
   refine g_mv rfl (zbV rfl x rfl rfl rfl rfl rfl Tryz.underlying79 zfl (by first | ((repeat (first | with_reducible exact Upd.here _ | with_reducible apply Upd.there)); done) | ((repeat (first | exact Upd.here _ | apply Upd.there)); done) | fail) ?_)
   (repeat (refine gG ?_; try intro _))
   refine g_yd rfl rfl ((zbY (S := [mpk r (Value.int .u32) (msG x (.int .i64 (l.count x + 1 : Int)) M)]) x rfl rfl rfl rfl Tryz.underlying79 zfl zfn (.head _)).ydS sF) ?_
   refine zaK 35 (.int .i64 ((l ++ [x]).count x : Int)) rfl (hI2.look x) ?_
   (repeat (refine gG ?_; try intro _))
   refine zad hT rfl rfl (.tmp rfl .nil) (fun w' hk => ?_)
   exact RetM.mkP (ll := fun T' => tbL2 t X T') (⟨some r, msG x (.int .i64 (l.count x + 1 : Int)) M, s + 1⟩ : TabS) hI2 rfl hk (fun b hb => (hE b).2 hb) (show SelAll [blk t [X.f, .map (some r), .int .i64 (s + 1), X.u, X.v, X.n] 100, mpk r (Value.int .u32) (msG x (.int .i64 (l.count x + 1 : Int)) M)] _ from sA)
end Go.Proofs.YtaghmffgoomebaaGreat.Al
namespace Go.Proofs.YtaghmffgoomebaaGreat.Hp
open Go.RowKit Mem Gx
set_option maxRecDepth 100000
set_option maxHeartbeats 1000000
structure HO (σ α : Type) where
 iv : Value
 F : σ → List α → Fact
 lt : α → α → Prop
 ord : LtO lt
 ok : List α → Prop
 okp : ∀ L L', L'.Perm L → ok L → ok L'
 okl : ∀ L x, ok (L ++ [x]) → ok L
 xv : α → Value
 fin : ∀ s L w, (F s L).p w → ∃ E : List Nat, ∀ b, (F s L).S b ↔ b ∈ E
 len : ∀ s L w, Rd1 w (F s L) → ok L → L.length ≤ 100000 → IMeth Tryz.prog iv "Len" [] w fun e w' => e = .returned (.int .i64 (L.length : Int)) ∧ Below w.heap.size w w'
 less : ∀ s L w (i j : Nat) (x y : α), Rd1 w (F s L) → ok L → L.length ≤ 100000 → L[i]? = some x → L[j]? = some y → IMeth Tryz.prog iv "Less" [.int .i64 (i : Int), .int .i64 (j : Int)] w fun e w' => e = .returned (.bool (tB (lt x y))) ∧ Below w.heap.size w w'
 swap : ∀ s L w (i j : Nat) (x y : α), Rd1 w (F s L) → ok L → L.length ≤ 100000 → L[i]? = some x → L[j]? = some y → IMeth Tryz.prog iv "Swap" [.int .i64 (i : Int), .int .i64 (j : Int)] w (RetM (F s L) (fun _ : Value => True) (fun v => v) (fun _ => F s (swp L i j x y)) w)
 push : ∀ s L w x, Rd1 w (F s L) → ok (L ++ [x]) → L.length ≤ 100000 → IMeth Tryz.prog iv "Push" [xv x] w (RetM (F s L) (fun _ : σ × Value => True) (fun r => r.2) (fun r => F r.1 (L ++ [x])) w)
 pop : ∀ s L x w, Rd1 w (F s (L ++ [x])) → ok (L ++ [x]) → L.length ≤ 100000 → IMeth Tryz.prog iv "Pop" [] w (RetM (F s (L ++ [x])) (fun _ : σ => True) (fun _ => xv x) (fun s' => F s' L) w)
variable {σ α : Type} (H : HO σ α)
theorem up_any (s : σ) (L : List α) (j n : Nat) (w : World) (h : Rd1 w (H.F s L)) (hok : H.ok L) (hL : L.length ≤ 100000) (hjn : j < n) (hn : n ≤ L.length) (hu : UInv H.lt L n j) :
 Calls Tryz.prog 125 [H.iv, .int .i64 (j : Int)].toArray w (RetM (H.F s L) (fun L' : List α => L'.Perm L ∧ HeapN H.lt L' n ∧ ∀ k, n ≤ k → L'[k]? = L[k]?) (fun _ => .tuple #[]) (fun L' => H.F s L') w) := by
 obtain ⟨E, hE⟩ := H.fin s L w h.1
 refine zab T E [H.F s L] [] Tryz.func125 rfl Tryz.ntmps125 rfl (Kn.startM h (fun b hb => (hE b).1 hb) (fun _ h => by cases h)) ?_
 refine gL2 (fun (j' : Nat) (L' : (List α)) => (j' < n ∧ L'.Perm L ∧ UInv H.lt L' n j' ∧ ∀ k, n ≤ k → L'[k]? = L[k]?)) (fun j' L' => [(0, H.iv), (1, .int .i64 (j' : Int))]) (fun j' L' => [H.F s L']) (fun j' L' => []) (fun j' L' => j') j L ⟨hjn, List.Perm.refl _, hu, fun _ _ => rfl⟩ ?_
 rintro j' L' hI
 obtain ⟨hj', hp, hu', hfar⟩ := hI
 have hl' : L'.length = L.length := hp.length_eq
 have hok' := H.okp _ _ hp hok
 (repeat (refine gG ?_; try intro _))
 rcases Nat.eq_zero_or_pos j' with h0 | h0
 ·subst h0
  refine zeY false hT rfl rfl rfl (by omega) ?_
  refine zaK 7 (.int .i64 0) rfl (by rfl) ?_
  (repeat' (first | (refine gH ?_; try intro _) | (refine gS ?_ ?_ <;> intro _) | fail))
  refine zdG hT rfl rfl .nil (fun w' hk => ?_)
  exact RetM.mk L' ⟨hp, hu'.zero, hfar⟩ rfl hk (fun b hb => (hE b).2 hb) mE
 ·obtain ⟨i, hi⟩ : ∃ i, i = (j' - 1) / 2 := ⟨_, rfl⟩
  obtain ⟨x, hx⟩ : ∃ x, L'[j']? = some x := ⟨L'[j'], List.getElem?_eq_getElem (by omega)⟩
  obtain ⟨p, hpp⟩ : ∃ p, L'[i]? = some p := ⟨L'[i], List.getElem?_eq_getElem (by omega)⟩
  (repeat (refine gG ?_; try intro _))
  refine zaK 4 (.int .i64 (i : Int)) rfl (by first | (congr 1; done) | (congr 1; omega)) ?_
  refine g_dec false rfl rfl (zaj (by omega)) ?_
  (repeat (refine gG ?_; try intro _))
  refine g_mv rfl (zbI rfl rfl rfl rfl rfl (fun w hk => H.less s L' w j' i x p (hk.rO mE) hok' (by omega) hx hpp) ?_)
  (repeat (refine gG ?_; try intro _))
  by_cases hlt : H.lt x p
  ·refine zbc rfl (congrArg some (congrArg Value.bool (by rw [zan hlt]; rfl))) ?_
   (repeat (refine gG ?_; try intro _))
   refine g_mv rfl (zbH rfl rfl rfl rfl rfl (fun w hk => H.swap s L' w i j' p x (hk.rO mE) hok' (by omega) hpp hx) uD (fun v _ => ?_))
   (repeat (refine gG ?_; try intro _))
   refine zag rfl (i, swp L' i j' p x) ⟨by omega, (zcT hpp hx).trans hp, by
    have := hu'.step H.ord h0 hj' (by omega) hx (by rw [← hi]; exact hpp) hlt
    rw [← hi] at this
    exact this, fun k hk => by rw [zfQ (by omega) (by omega) (n := n) (by omega) (by omega) hk]; exact hfar k hk⟩ (by dsimp only; omega) fS sA sS
  ·refine zbb rfl (congrArg some (congrArg Value.bool (by rw [zaj hlt]; rfl))) ?_
   (repeat (refine gG ?_; try intro _))
   refine zdG hT rfl rfl .nil (fun w' hk => ?_)
   exact RetM.mk L' ⟨hp, hu'.stop hx (by rw [← hi]; exact hpp) hlt, hfar⟩ rfl hk (fun b hb => (hE b).2 hb) mE
theorem DInv.mono {lt : α → α → Prop} {L : List α} {n i : Nat} {p q : Prop} (h : DInv lt L n i p) (hq : q → p) : DInv lt L n i q := ⟨fun k h0 hk hp hm => h.e k h0 hk hp (hm.imp id hq), h.g⟩
theorem zdN {lt : α → α → Prop} {L' : List α} {n i i0 : Nat} {x : α} (e : tB ((i0 : Int) < i) = true) (h : DInv lt L' n i (i ≠ i0)) (hx : L'[i]? = some x) (hc : ∀ k, 0 < k → k < n → (k - 1) / 2 = i → ∀ z, L'[k]? = some z → ¬ lt z x) : HeapN lt L' n := fun k h0 hk =>
 h.stop hx hc k h0 hk (.inr (by have := zaQ.1 e; omega))
theorem zc2 {lt : α → α → Prop} {L L' : List α} {n i i0 : Nat} {x : α} (e : tB ((i0 : Int) < i) = false) (hi0 : i0 ≤ i) (h : DInv lt L' n i (i ≠ i0)) (hx : L'[i]? = some x) (hs : i = i0 → L' = L) (hc : ∀ k, 0 < k → k < n → (k - 1) / 2 = i → ∀ z, L'[k]? = some z → ¬ lt z x) : L' = L ∧ ∀ k, 0 < k → k < n → k ≠ i0 → Edge lt L k := by
 have e1 : i = i0 := by
  have : ¬ ((i0 : Int) < i) := fun h => by rw [zan h] at e; cases e
  omega
 subst e1
 obtain rfl := hs rfl
 exact ⟨rfl, fun k h0 hk hne => h.stop hx hc k h0 hk (.inl hne)⟩
theorem zn3 (s : σ) (L : List α) (i0 n : Nat) (w : World) (h : Rd1 w (H.F s L)) (hok : H.ok L) (hL : L.length ≤ 100000) (hi0 : i0 < L.length) (hn : n ≤ L.length) (hd : DInv H.lt L n i0 False) :
 Calls Tryz.prog 137 [H.iv, .int .i64 (i0 : Int), .int .i64 (n : Int)].toArray w (RetM (H.F s L) (fun r : List α × Bool => r.1.Perm L ∧ (∀ k, n ≤ k → r.1[k]? = L[k]?) ∧ (r.2 = true → HeapN H.lt r.1 n) ∧ (r.2 = false → r.1 = L ∧ ∀ k, 0 < k → k < n → k ≠ i0 → Edge H.lt L k)) (fun r => .bool r.2) (fun r => H.F s r.1) w) := by
 obtain ⟨E, hE⟩ := H.fin s L w h.1
 refine zab T E [H.F s L] [] Tryz.func137 rfl Tryz.ntmps137 rfl (Kn.startM h (fun b hb => (hE b).1 hb) (fun _ h => by cases h)) ?_
 (repeat (refine gG ?_; try intro _))
 refine gL2 (fun (i : Nat) (L' : (List α)) => (i0 ≤ i ∧ i < L.length ∧ L'.Perm L ∧ (∀ k, n ≤ k → L'[k]? = L[k]?) ∧ DInv H.lt L' n i (i ≠ i0) ∧ (i = i0 → L' = L))) (fun i L' => [(0, H.iv), (1, .int .i64 (i0 : Int)), (2, .int .i64 (n : Int)), (7, .int .i64 (i : Int))]) (fun i L' => [H.F s L']) (fun i L' => []) (fun i L' => L.length - i) i0 L ⟨Nat.le_refl _, hi0, List.Perm.refl _, fun _ _ => rfl, hd.mono (fun h => absurd rfl h), fun _ => rfl⟩ ?_
 rintro i L' hI
 obtain ⟨hi0, hil, hp, hfar, hd', hsame⟩ := hI
 have hl' : L'.length = L.length := hp.length_eq
 have hok' := H.okp _ _ hp hok
 obtain ⟨x, hx⟩ : ∃ x, L'[i]? = some x := ⟨L'[i], List.getElem?_eq_getElem (by omega)⟩
 by_cases hc : n ≤ 2 * i + 1
 ·(repeat' (first | (refine gH ?_; try intro _) | (refine gS ?_ ?_ <;> intro _) | fail))
  refine zad hT rfl rfl (.tmp rfl .nil) (fun w' hk => ?_)
  have hno : ∀ k, 0 < k → k < n → (k - 1) / 2 = i → ∀ z, L'[k]? = some z → ¬ H.lt z x := fun k h0 hk e => absurd hk (by omega)
  exact RetM.mk (L', tB ((i0 : Int) < i)) ⟨hp, hfar, fun e => zdN e hd' hx hno, fun e => zc2 e hi0 hd' hx hsame hno⟩ rfl hk (fun b hb => (hE b).2 hb) mE
 ·obtain ⟨u, hu⟩ : ∃ u, L'[2 * i + 1]? = some u := ⟨L'[2 * i + 1], List.getElem?_eq_getElem (by omega)⟩
  by_cases h2 : 2 * i + 2 < n
  ·obtain ⟨z, hz⟩ : ∃ z, L'[2 * i + 2]? = some z := ⟨L'[2 * i + 2], List.getElem?_eq_getElem (by omega)⟩
   (repeat' (first | (refine gH ?_; try intro _) | (refine gS ?_ ?_ <;> intro _) | fail))
   refine zaK 30 (.int .i64 ((2 * i + 2 : Nat) : Int)) rfl (by first | (congr 1; done) | (congr 1; omega)) ?_
   refine zaK 31 (.int .i64 ((2 * i + 1 : Nat) : Int)) rfl (by first | (congr 1; done) | (congr 1; omega)) ?_
   refine g_mv rfl (zbI rfl rfl rfl rfl rfl (fun w hk => H.less s L' w (2 * i + 2) (2 * i + 1) z u (hk.rO mE) hok' (by omega) hz hu) ?_)
   (repeat (refine gG ?_; try intro _))
   by_cases l1 : H.lt z u
   ·refine zbb rfl (congrArg some (congrArg Value.bool (zan l1))) ?_
    obtain ⟨j, hj⟩ : ∃ j, j = 2 * i + 2 := ⟨_, rfl⟩
    have hm : MinC H.lt L' n i j z := by rw [hj]; exact MinC.right (by omega) h2 hz hu (H.ord.asym l1) (H.ord.irr z)
    have hjn := hm.jn
    obtain ⟨y, hy⟩ : ∃ y, y = z := ⟨_, rfl⟩
    subst hy
    (repeat (refine gG ?_; try intro _))
    refine zaK 36 (.int .i64 (j : Int)) rfl (by first | (congr 1; done) | (congr 1; omega)) ?_
    refine g_mv rfl (zbI rfl rfl rfl rfl rfl (fun w hk => H.less s L' w j i y x (hk.rO mE) hok' (by omega) hm.at_ hx) ?_)
    (repeat (refine gG ?_; try intro _))
    by_cases l2 : H.lt y x
    ·refine zbc rfl (congrArg some (congrArg Value.bool (by rw [zan l2]; rfl))) ?_
     (repeat (refine gG ?_; try intro _))
     refine zaK 42 (.int .i64 (j : Int)) rfl (by first | (congr 1; done) | (congr 1; omega)) ?_
     refine g_mv rfl (zbH rfl rfl rfl rfl rfl (fun w hk => H.swap s L' w i j x y (hk.rO mE) hok' (by omega) hx hm.at_) uD (fun v _ => ?_))
     (repeat (refine gG ?_; try intro _))
     refine zbs 7 (.int .i64 (j : Int)) rfl (by first | (congr 1; done) | (congr 1; omega)) ?_
     refine zag rfl (j, swp L' i j x y) ⟨by omega, by omega, (zcT hx hm.at_).trans hp, fun k hk => (zfQ (by omega) (by omega) (n := n) (by omega) (by omega) hk).trans (hfar k hk), (hd'.step H.ord (by omega) hx hm l2).mono fun _ => by omega, fun e => by omega⟩ (by dsimp only; omega) fS sA sS
    ·refine zbb rfl (congrArg some (congrArg Value.bool (by rw [zaj l2]; rfl))) ?_
     (repeat (refine gG ?_; try intro _))
     refine zad hT rfl rfl (.tmp rfl .nil) (fun w' hk => ?_)
     exact RetM.mk (L', tB ((i0 : Int) < i)) ⟨hp, hfar, fun e => zdN e hd' hx (hm.no H.ord l2), fun e => zc2 e hi0 hd' hx hsame (hm.no H.ord l2)⟩ rfl hk (fun b hb => (hE b).2 hb) mE
   ·refine zbc rfl (congrArg some (congrArg Value.bool (zaj l1))) ?_
    obtain ⟨j, hj⟩ : ∃ j, j = 2 * i + 1 := ⟨_, rfl⟩
    have hm : MinC H.lt L' n i j u := by rw [hj]; exact MinC.left (by omega) (by omega) hu (fun v _ hv => by rw [hz] at hv; obtain rfl := Option.some.inj hv; exact l1) (H.ord.irr u)
    have hjn := hm.jn
    obtain ⟨y, hy⟩ : ∃ y, y = u := ⟨_, rfl⟩
    subst hy
    (repeat (refine gG ?_; try intro _))
    refine zaK 36 (.int .i64 (j : Int)) rfl (by first | (congr 1; done) | (congr 1; omega)) ?_
    refine g_mv rfl (zbI rfl rfl rfl rfl rfl (fun w hk => H.less s L' w j i y x (hk.rO mE) hok' (by omega) hm.at_ hx) ?_)
    (repeat (refine gG ?_; try intro _))
    by_cases l2 : H.lt y x
    ·refine zbc rfl (congrArg some (congrArg Value.bool (by rw [zan l2]; rfl))) ?_
     (repeat (refine gG ?_; try intro _))
     refine zaK 42 (.int .i64 (j : Int)) rfl (by first | (congr 1; done) | (congr 1; omega)) ?_
     refine g_mv rfl (zbH rfl rfl rfl rfl rfl (fun w hk => H.swap s L' w i j x y (hk.rO mE) hok' (by omega) hx hm.at_) uD (fun v _ => ?_))
     (repeat (refine gG ?_; try intro _))
     refine zbs 7 (.int .i64 (j : Int)) rfl (by first | (congr 1; done) | (congr 1; omega)) ?_
     refine zag rfl (j, swp L' i j x y) ⟨by omega, by omega, (zcT hx hm.at_).trans hp, fun k hk => (zfQ (by omega) (by omega) (n := n) (by omega) (by omega) hk).trans (hfar k hk), (hd'.step H.ord (by omega) hx hm l2).mono fun _ => by omega, fun e => by omega⟩ (by dsimp only; omega) fS sA sS
    ·refine zbb rfl (congrArg some (congrArg Value.bool (by rw [zaj l2]; rfl))) ?_
     (repeat (refine gG ?_; try intro _))
     refine zad hT rfl rfl (.tmp rfl .nil) (fun w' hk => ?_)
     exact RetM.mk (L', tB ((i0 : Int) < i)) ⟨hp, hfar, fun e => zdN e hd' hx (hm.no H.ord l2), fun e => zc2 e hi0 hd' hx hsame (hm.no H.ord l2)⟩ rfl hk (fun b hb => (hE b).2 hb) mE
  ·have hm0 : MinC H.lt L' n i (2 * i + 1) u := MinC.left (by omega) (by omega) hu (fun v hv _ => absurd hv h2) (H.ord.irr u)
   (repeat' (first | (refine gH ?_; try intro _) | (refine gS ?_ ?_ <;> intro _) | fail))
   obtain ⟨j, hj⟩ : ∃ j, j = 2 * i + 1 := ⟨_, rfl⟩
   have hm : MinC H.lt L' n i j u := by rw [hj]; exact hm0
   have hjn := hm.jn
   obtain ⟨y, hy⟩ : ∃ y, y = u := ⟨_, rfl⟩
   subst hy
   (repeat (refine gG ?_; try intro _))
   refine zaK 36 (.int .i64 (j : Int)) rfl (by first | (congr 1; done) | (congr 1; omega)) ?_
   refine g_mv rfl (zbI rfl rfl rfl rfl rfl (fun w hk => H.less s L' w j i y x (hk.rO mE) hok' (by omega) hm.at_ hx) ?_)
   (repeat (refine gG ?_; try intro _))
   by_cases l2 : H.lt y x
   ·refine zbc rfl (congrArg some (congrArg Value.bool (by rw [zan l2]; rfl))) ?_
    (repeat (refine gG ?_; try intro _))
    refine zaK 42 (.int .i64 (j : Int)) rfl (by first | (congr 1; done) | (congr 1; omega)) ?_
    refine g_mv rfl (zbH rfl rfl rfl rfl rfl (fun w hk => H.swap s L' w i j x y (hk.rO mE) hok' (by omega) hx hm.at_) uD (fun v _ => ?_))
    (repeat (refine gG ?_; try intro _))
    refine zbs 7 (.int .i64 (j : Int)) rfl (by first | (congr 1; done) | (congr 1; omega)) ?_
    refine zag rfl (j, swp L' i j x y) ⟨by omega, by omega, (zcT hx hm.at_).trans hp, fun k hk => (zfQ (by omega) (by omega) (n := n) (by omega) (by omega) hk).trans (hfar k hk), (hd'.step H.ord (by omega) hx hm l2).mono fun _ => by omega, fun e => by omega⟩ (by dsimp only; omega) fS sA sS
   ·refine zbb rfl (congrArg some (congrArg Value.bool (by rw [zaj l2]; rfl))) ?_
    (repeat (refine gG ?_; try intro _))
    refine zad hT rfl rfl (.tmp rfl .nil) (fun w' hk => ?_)
    exact RetM.mk (L', tB ((i0 : Int) < i)) ⟨hp, hfar, fun e => zdN e hd' hx (hm.no H.ord l2), fun e => zc2 e hi0 hd' hx hsame (hm.no H.ord l2)⟩ rfl hk (fun b hb => (hE b).2 hb) mE
end Go.Proofs.YtaghmffgoomebaaGreat.Hp
