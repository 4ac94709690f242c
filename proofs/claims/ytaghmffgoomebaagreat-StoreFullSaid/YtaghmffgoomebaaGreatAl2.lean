/- A list without what stands twice in a row, plain. Runs of blocks, plain. refs.Table: Len, Sum, All. refs.Table within an Alloc. -/
import Derived.Test.YtaghmffgoomebaaGreatPq4
import Derived.Sort.LotA
import Derived.Sort.LotB
import Derived.Test.YtaghmffgoomebaaGreatRf1
namespace Go.Proofs.YtaghmffgoomebaaGreat.Dd
open Pq Hp
set_option linter.unusedVariables false
set_option linter.unusedSimpArgs false
section
variable {α : Type} [DecidableEq α] {L : List α} {k i j : Nat} {x y : α}
def ddN (L : List α) : Nat → List α
  | 0 => []
  | k + 1 => ddN L k ++ (match L[k]? with
    | some x => if k ≠ 0 ∧ L[k - 1]? = some x then [] else [x]
    | none => [])
def dd (L : List α) : List α := ddN L L.length
theorem ddN_keep (hx : L[k]? = some x) (h : k = 0 ∨ L[k - 1]? ≠ some x) : ddN L (k + 1) = ddN L k ++ [x] := by
  rw [ddN, hx]
  simp only
  rw [if_neg (by rintro ⟨h1, h2⟩; rcases h with h | h; exact h1 h; exact h h2)]
theorem ddN_skip (hx : L[k]? = some x) (hk : k ≠ 0) (h : L[k - 1]? = some x) : ddN L (k + 1) = ddN L k := by
  rw [ddN, hx]
  simp only
  rw [if_pos ⟨hk, h⟩, List.append_nil]
theorem mem_ddN : x ∈ ddN L k ↔ x ∈ L.take k := by
  induction k with
  | zero => simp [ddN]
  | succ k ih =>
    by_cases hk : k < L.length
    · obtain ⟨y, hy⟩ : ∃ y, L[k]? = some y := ⟨_, List.getElem?_eq_getElem hk⟩
      have e : L.take (k + 1) = L.take k ++ [y] := by
        rw [List.take_succ_eq_append_getElem hk]
        rw [List.getElem?_eq_getElem hk] at hy
        injection hy with hy
        rw [hy]
      by_cases h : k ≠ 0 ∧ L[k - 1]? = some y
      · rw [ddN_skip hy h.1 h.2, ih, e, List.mem_append]
        refine ⟨.inl, fun h' => h'.elim id fun h' => ?_⟩
        obtain rfl := List.mem_singleton.1 h'
        refine List.mem_of_getElem? (i := k - 1) ?_
        rw [List.getElem?_take, if_pos (by omega)]
        exact h.2
      · rw [ddN_keep hy (by by_cases e : k = 0; exact .inl e; exact .inr fun h' => h ⟨e, h'⟩), e, List.mem_append, List.mem_append, ih]
    · rw [ddN, List.getElem?_eq_none (by omega)]
      simp only [List.append_nil]
      rw [ih, List.take_of_length_le (by omega), List.take_of_length_le (by omega)]
theorem mem_dd : x ∈ dd L ↔ x ∈ L := by
  unfold dd
  rw [mem_ddN, List.take_length]
end
end Go.Proofs.YtaghmffgoomebaaGreat.Dd
namespace Go.Proofs.YtaghmffgoomebaaGreat.Ex
open Go.RowKit Mem Gx Dd
set_option linter.unusedVariables false
set_option linter.unusedSimpArgs false
/-- A run. -/
structure RunD where
  f : Int
  m : Int
instance : Inhabited RunD := ⟨⟨0, 0⟩⟩
def inr (b : Int) : Bool := decide (0 ≤ b ∧ b ≤ 4096)
def okR (e : Int) (r : RunD) : Prop := 1 ≤ r.m ∧ e < r.f ∧ 0 ≤ r.f ∧ r.m ≤ 4097 ∧ r.f ≤ 4096
def rightE : Int → List RunD → Prop
  | _, [] => True
  | e, r :: l => okR e r ∧ rightE (r.f + r.m) l
def endE : Int → List RunD → Int
  | e, [] => e
  | _, r :: l => endE (r.f + r.m) l
def expR (r : RunD) : List Int := (List.range r.m.toNat).map fun k : Nat => r.f + (k : Int)
def exp (l : List RunD) : List Int := l.flatMap expR
theorem exp_snoc (l : List RunD) (r : RunD) : exp (l ++ [r]) = exp l ++ expR r := by simp [exp]
theorem rightE_snoc (e : Int) (l : List RunD) (r : RunD) : rightE e (l ++ [r]) ↔ rightE e l ∧ okR (endE e l) r := by
  induction l generalizing e with
  | nil => simp [rightE, endE]
  | cons x l ih => simp only [List.cons_append, rightE, endE, ih, and_assoc]
theorem endE_snoc (e : Int) (l : List RunD) (r : RunD) : endE e (l ++ [r]) = r.f + r.m := by
  induction l generalizing e with
  | nil => rfl
  | cons x l ih => exact ih _
/-- A block more. -/
def addR (out : List RunD) (b : Int) : List RunD :=
  if inr b then (match out.getLast? with
    | some r => if r.f + r.m = b then out.dropLast ++ [⟨r.f, r.m + 1⟩] else out ++ [⟨b, 1⟩]
    | none => out ++ [⟨b, 1⟩]) else out
theorem addR_out {out : List RunD} {b : Int} (h : inr b = false) : addR out b = out := by unfold addR; rw [h]; rfl
theorem addR_new {out : List RunD} {b : Int} (h : inr b = true) (h2 : ∀ r, out.getLast? = some r → r.f + r.m ≠ b) : addR out b = out ++ [⟨b, 1⟩] := by
  unfold addR
  rw [h, if_pos rfl]
  cases hl : out.getLast? with
  | none => rfl
  | some r => simp only; rw [if_neg (h2 r hl)]
theorem addR_more {out : List RunD} {r : RunD} {b : Int} (h : inr b = true) (h2 : r.f + r.m = b) : addR (out ++ [r]) b = out ++ [⟨r.f, r.m + 1⟩] := by
  unfold addR
  rw [h, if_pos rfl]
  simp [h2]
theorem expR_more (r : RunD) (h : 0 ≤ r.m) : expR ⟨r.f, r.m + 1⟩ = expR r ++ [r.f + r.m] := by
  unfold expR
  simp only
  rw [show (r.m + 1).toNat = r.m.toNat + 1 by omega, List.range_succ, List.map_append]
  simp
  omega
/-- What runs are, of blocks so far. -/
structure RInv (P : List Int) (R : List RunD) : Prop where
  right : rightE (-1) R
  ex : exp R = P.filter inr
  last : ∀ r, R.getLast? = some r → ∃ x ∈ P, x + 1 = r.f + r.m
theorem RInv.nil : RInv [] [] := ⟨trivial, rfl, fun r h => by simp at h⟩
theorem RInv.add {P : List Int} {R : List RunD} {b : Int} (h : RInv P R) (hb : ∀ x ∈ P, x < b) : RInv (P ++ [b]) (addR R b) := by
  cases hr : inr b with
  | false =>
    rw [addR_out hr]
    refine ⟨h.right, ?_, fun r hl => ?_⟩
    · rw [List.filter_append, ← h.ex]; simp [hr]
    · obtain ⟨x, hx, e⟩ := h.last r hl
      exact ⟨x, List.mem_append_left _ hx, e⟩
  | true =>
    have hb2 : 0 ≤ b ∧ b ≤ 4096 := by simpa [inr] using hr
    have hf : (P ++ [b]).filter inr = exp R ++ [b] := by rw [List.filter_append, ← h.ex]; simp [hr]
    by_cases hl : ∃ r, R.getLast? = some r ∧ r.f + r.m = b
    · obtain ⟨r, hl, e⟩ := hl
      obtain ⟨R0, rfl⟩ : ∃ R0, R = R0 ++ [r] := by
        rcases List.eq_nil_or_concat R with rfl | ⟨R0, r', rfl⟩
        · simp at hl
        · rw [List.concat_eq_append] at hl ⊢
          simp at hl
          exact ⟨R0, by rw [hl]⟩
      rw [addR_more hr e]
      have hok := (rightE_snoc _ _ _).1 h.right
      refine ⟨(rightE_snoc _ _ _).2 ⟨hok.1, ?_⟩, ?_, fun r' hl' => ?_⟩
      · obtain ⟨h1, h2, h3, h4, h5⟩ := hok.2
        exact ⟨by show 1 ≤ r.m + 1; omega, h2, h3, by show r.m + 1 ≤ 4097; omega, h5⟩
      · rw [hf, exp_snoc, exp_snoc, expR_more r (by have := hok.2.1; omega), e, List.append_assoc]
      · simp at hl'
        subst hl'
        exact ⟨b, by simp, by show b + 1 = r.f + (r.m + 1); omega⟩
    · have hl2 : ∀ r, R.getLast? = some r → r.f + r.m ≠ b := fun r h1 h2 => hl ⟨r, h1, h2⟩
      rw [addR_new hr hl2]
      refine ⟨(rightE_snoc _ _ _).2 ⟨h.right, ?_⟩, ?_, fun r' hl' => ?_⟩
      · refine ⟨Int.le_refl _, ?_, hb2.1, by show (1 : Int) ≤ 4097; omega, hb2.2⟩
        show endE (-1) R < b
        rcases List.eq_nil_or_concat R with rfl | ⟨R0, r, rfl⟩
        · show (-1 : Int) < b; omega
        · rw [List.concat_eq_append] at *
          rw [endE_snoc]
          obtain ⟨x, hx, e⟩ := h.last r (by simp)
          have h1 := hb x hx
          have h2 := hl2 r (by simp)
          omega
      · rw [hf, exp_snoc]
        congr 1
        simp [expR]
      · simp at hl'
        subst hl'
        exact ⟨b, by simp, rfl⟩
/-- Sorted. -/
def srt (L : List Int) : List Int := L.mergeSort fun x y => decide (x ≤ y)
theorem srt_rise (L : List Int) (i j : Nat) (x y : Int) (h : i ≤ j) (hx : (srt L)[i]? = some x) (hy : (srt L)[j]? = some y) : x ≤ y := by
  rcases Nat.eq_or_lt_of_le h with rfl | h
  · rw [hx] at hy; injection hy with hy; omega
  · have hp : (srt L).Pairwise fun x y => decide (x ≤ y) = true := by
      refine List.pairwise_mergeSort ?_ ?_ _
      · intro a b c h1 h2
        simp only [decide_eq_true_eq] at *
        omega
      · intro a b
        simp only [Bool.or_eq_true, decide_eq_true_eq]
        omega
    rw [List.pairwise_iff_getElem] at hp
    obtain ⟨hi, ex⟩ := List.getElem?_eq_some_iff.1 hx
    obtain ⟨hj, ey⟩ := List.getElem?_eq_some_iff.1 hy
    have := hp i j hi hj h
    rw [ex, ey] at this
    simpa using this
/-- Without twins it rises. -/
theorem ddN_rise {S : List Int} (hs : ∀ (i j : Nat) (x y : Int), i ≤ j → S[i]? = some x → S[j]? = some y → x ≤ y) (k : Nat) (hk : k ≤ S.length) : (ddN S k).Pairwise (fun x y => x < y) ∧ (∀ x ∈ ddN S k, k ≠ 0 ∧ ∀ y, S[k - 1]? = some y → x ≤ y) := by
  induction k with
  | zero => exact ⟨.nil, fun x h => by cases h⟩
  | succ k ih =>
    obtain ⟨b, hb⟩ : ∃ b, S[k]? = some b := ⟨_, List.getElem?_eq_getElem (by omega)⟩
    obtain ⟨h1, h2⟩ := ih (by omega)
    have h3 : ∀ x ∈ ddN S k, x ≤ b := fun x hx => by
      obtain ⟨h0, h4⟩ := h2 x hx
      obtain ⟨y, hy⟩ : ∃ y, S[k - 1]? = some y := ⟨_, List.getElem?_eq_getElem (by omega)⟩
      have := hs (k - 1) k y b (by omega) hy hb
      have := h4 y hy
      omega
    by_cases h : k ≠ 0 ∧ S[k - 1]? = some b
    · rw [ddN_skip hb h.1 h.2]
      exact ⟨h1, fun x hx => ⟨by omega, fun y hy => by rw [Nat.add_sub_cancel, hb] at hy; injection hy with hy; rw [← hy]; exact h3 x hx⟩⟩
    · rw [ddN_keep hb (by by_cases e : k = 0; exact .inl e; exact .inr fun h' => h ⟨e, h'⟩)]
      refine ⟨?_, fun x hx => ⟨by omega, fun y hy => ?_⟩⟩
      · rw [List.pairwise_append]
        refine ⟨h1, List.pairwise_singleton _ _, fun x hx y hy => ?_⟩
        obtain rfl := List.mem_singleton.1 hy
        obtain ⟨h0, h4⟩ := h2 x hx
        obtain ⟨z, hz⟩ : ∃ z, S[k - 1]? = some z := ⟨_, List.getElem?_eq_getElem (by omega)⟩
        have h5 := hs (k - 1) k z y (by omega) hz hb
        have h6 := h4 z hz
        have h7 : z ≠ y := fun e => h ⟨h0, by rw [hz, e]⟩
        omega
      · rw [Nat.add_sub_cancel, hb] at hy
        injection hy with hy
        subst hy
        rcases List.mem_append.1 hx with hx | hx
        · exact h3 x hx
        · obtain rfl := List.mem_singleton.1 hx; omega
end Go.Proofs.YtaghmffgoomebaaGreat.Ex
namespace Go.Proofs.YtaghmffgoomebaaGreat.Rf
open Go.RowKit Mem Gx KyU Dd
set_option linter.unusedVariables false
set_option linter.unusedSimpArgs false
set_option maxRecDepth 100000
set_option maxHeartbeats 1000000
/-- The blocks of a row, rising, each once. -/
def setP (l : List Int) : List Int := dd (Ex.srt l)
theorem setP_rise (l : List Int) : (setP l).Pairwise (fun x y => x < y) := (Ex.ddN_rise (Ex.srt_rise l) (Ex.srt l).length (Nat.le_refl _)).1
theorem mem_setP {l : List Int} {x : Int} : x ∈ setP l ↔ x ∈ l := by
  unfold setP
  rw [mem_dd]
  exact (List.mergeSort_perm _ _).mem_iff
theorem nodup_of_rise {l : List Int} (h : l.Pairwise (fun x y => x < y)) : l.Nodup := h.imp fun h => by omega
theorem RfI.keys {T : TabS} {l : List Int} (h : RfI T l) : (T.M.map (·.1)).Perm (setP l) := (List.perm_ext_iff_of_nodup h.map.nodup (nodup_of_rise (setP_rise l))).2 fun k => by
  rw [mem_setP]
  have h1 := h.map.get k
  have h2 := @mg_mem _ _ k T.M
  rw [h1] at h2
  unfold cntV at h2
  by_cases hk : l.count k = 0
  · rw [if_pos hk] at h2
    exact ⟨fun hm => absurd hm (h2.1 rfl), fun hm => absurd (List.count_pos_iff.2 hm) (by omega)⟩
  · rw [if_neg hk] at h2
    refine ⟨fun _ => List.count_pos_iff.1 (by omega), fun _ => Classical.byContradiction fun hn => ?_⟩
    have := h2.2 hn
    cases this
end Go.Proofs.YtaghmffgoomebaaGreat.Rf
namespace Go.Proofs.YtaghmffgoomebaaGreat.Al
open Go.RowKit Mem Gx KyU Dd Rf
set_option linter.unusedVariables false
set_option linter.unusedSimpArgs false
set_option maxRecDepth 100000
set_option maxHeartbeats 1000000
/-- A table's map, if there is one. -/
def moF : Option Nat → List (Int × Value) → Fact
  | none, M => ⟨fun _ => False, fun _ => M = [], fun _ _ _ h => h⟩
  | some r, M => mpk r (Value.int .u32) M
theorem oneU : ∀ (x : Int) (j : Nat), (IE .u32 x j).oneCell' = true := by intro x j; rfl
theorem elt_U : Elt Tryz.prog 43 26 1 4 := Elt.mk' (z := .int .u32 0) Tryz.underlying43 (by kernel_rfl) rfl (by decide)
/-- The other cells of an Alloc: free, sure, late, n. -/
structure XA where
  f : Value
  u : Value
  v : Value
  n : Value
def tbL2 (t : Nat) (X : XA) (T : TabS) : List Fact := [blk t [X.f, .map T.r, .int .i64 T.sum, X.u, X.v, X.n] 100, moF T.r T.M]
abbrev tbF2 (t : Nat) (X : XA) (T : TabS) : Fact := packF (tbL2 t X T)
theorem fin2 (t : Nat) (X : XA) (T : TabS) : ∃ E : List Nat, ∀ b, (tbF2 t X T).S b ↔ b ∈ E := by
  obtain ⟨r, M, s⟩ := T
  cases r with
  | none => exact ⟨[t], fun b => ⟨fun ⟨φ, hφ, hb⟩ => by
      rcases List.mem_cons.1 hφ with rfl | hφ
      · exact List.mem_singleton.2 hb
      · obtain rfl := List.mem_singleton.1 hφ
        exact hb.elim, fun hb => ⟨_, .head _, List.mem_singleton.1 hb⟩⟩⟩
  | some r => exact ⟨[t, r], fun b => ⟨fun ⟨φ, hφ, hb⟩ => by
      rcases List.mem_cons.1 hφ with rfl | hφ
      · have : b = t := hb
        rw [this]; exact .head _
      · obtain rfl := List.mem_singleton.1 hφ
        have : b = r := hb
        rw [this]; exact .tail _ (.head _), fun hb => by
      rcases List.mem_cons.1 hb with rfl | hb
      · exact ⟨_, .head _, rfl⟩
      · obtain rfl := List.mem_singleton.1 hb
        exact ⟨_, .tail _ (.head _), rfl⟩⟩⟩
theorem hold2_any (t : Nat) (X : XA) (T : TabS) (l : List Int) (x : Int) (w : World) (hx : x ≠ 0) (hl9 : l.length < 1000) (hI : RfI T l) (h : Rd1 w (tbF2 t X T)) :
    Calls Tryz.prog 104 [.pointer (some ⟨t, 1, none⟩), .int .u32 x].toArray w (RetM (tbF2 t X T) (fun T' : TabS => RfI T' (l ++ [x])) (fun _ => .int .i64 ((l ++ [x]).count x : Int)) (fun T' => tbF2 t X T') w) := by
  obtain ⟨E, hE⟩ := fin2 t X T
  have hll := hI.len
  have hcn : l.count x ≤ l.length := List.count_le_length
  have hsum := hI.sum
  obtain ⟨r, M, s⟩ := T
  have key : ∀ (r' : Nat) (M0 : List (Int × Value)), MapIs M0 (cntV l) → RfI ⟨some r', msG x (.int .i64 (l.count x + 1 : Int)) M0, s + 1⟩ (l ++ [x]) := fun r' M0 hM => ⟨fun e => (by cases e), by show s + 1 = _; rw [List.length_append]; simp at hsum ⊢; omega, hM.set fun k' => by
    unfold cntV
    rw [cnt_snoc]
    by_cases e : k' = x
    · subst e; rw [if_pos rfl, if_pos rfl, if_neg (by omega)]; push_cast; rfl
    · rw [if_neg e, if_neg e, Nat.add_zero], by rw [List.length_append]; simp; omega⟩
  cases r with
  | none =>
    have hnil := hI.nil rfl
    have hc0 : l.count x = 0 := by rw [hnil]; rfl
    have hs0 : s = 0 := by rw [show s = (l.length : Int) from hsum, hnil]; rfl
    refine g_enter0 T E [blk t [X.f, .map none, .int .i64 s, X.u, X.v, X.n] 100, moF none M] [] Tryz.func104 rfl Tryz.ntmps104 rfl (Kn.startP h (fun b hb => (hE b).1 hb) (fun _ h => by cases h)) ?_
    (repeat' (first | (refine gG ?_; try intro _) | ((first | refine g_split rfl rfl tE (fun _ => ?_) (fun _ => ?_) | refine gk_cond rfl rfl tE (fun _ => ?_) (fun _ => ?_)) <;> (try first | (exfalso; omega; done) | (rename_i hx; exact absurd rfl hx) | (rename_i hx; cases hx; done)))))
    refine g_yd rfl rfl (Ys.yd (ys_map_nil hT rfl rfl rfl Tryz.underlying79)) ?_
    (repeat (refine gG ?_; try intro _))
    refine g_mv rfl (mv_makeMapG rfl (Value.int .u32) rfl (fun r => ?_))
    (repeat (refine gG ?_; try intro _))
    have hI2 := key r [] (by rw [hnil]; exact MapIs.nil.congr fun k => by simp [cntV])
    refine g_yd rfl rfl ((ys_lookupG (S := [mpk r (Value.int .u32) []]) x rfl rfl rfl rfl Tryz.underlying79 kok_u zero_I (.head _)).ydS sF) ?_
    refine g_say 21 (.int .i64 (l.count x : Int)) rfl (by rw [hc0]; rfl) ?_
    (repeat (refine gG ?_; try intro _))
    refine g_mv rfl (mv_mapUpdateG rfl x rfl rfl rfl rfl rfl Tryz.underlying79 kok_u (by first | ((repeat (first | with_reducible exact Upd.here _ | with_reducible apply Upd.there)); done) | ((repeat (first | exact Upd.here _ | apply Upd.there)); done) | fail) ?_)
    (repeat (refine gG ?_; try intro _))
    refine g_yd rfl rfl ((ys_lookupG (S := [mpk r (Value.int .u32) (msG x (.int .i64 (l.count x + 1 : Int)) [])]) x rfl rfl rfl rfl Tryz.underlying79 kok_u zero_I (.head _)).ydS sF) ?_
    refine g_say 35 (.int .i64 ((l ++ [x]).count x : Int)) rfl (hI2.look x) ?_
    (repeat (refine gG ?_; try intro _))
    refine gk_ret hT rfl rfl (.tmp rfl .nil) (fun w' hk => ?_)
    exact RetM.mkP (ll := fun T' => tbL2 t X T') (⟨some r, msG x (.int .i64 (l.count x + 1 : Int)) [], s + 1⟩ : TabS) hI2 rfl hk (fun b hb => (hE b).2 hb) (show SelAll [blk t [X.f, .map (some r), .int .i64 (s + 1), X.u, X.v, X.n] 100, mpk r (Value.int .u32) (msG x (.int .i64 (l.count x + 1 : Int)) [])] _ from sA)
  | some r =>
    have hI2 := key r M hI.map
    refine g_enter0 T E [blk t [X.f, .map (some r), .int .i64 s, X.u, X.v, X.n] 100, mpk r (Value.int .u32) M] [] Tryz.func104 rfl Tryz.ntmps104 rfl (Kn.startP h (fun b hb => (hE b).1 hb) (fun _ h => by cases h)) ?_
    have hsv : s = (l.length : Int) := hsum
    (repeat' (first | (refine gG ?_; try intro _) | ((first | refine g_split rfl rfl tE (fun _ => ?_) (fun _ => ?_) | refine gk_cond rfl rfl tE (fun _ => ?_) (fun _ => ?_)) <;> (try first | (exfalso; omega; done) | (rename_i hx; exact absurd rfl hx) | (rename_i hx; cases hx; done)))))
    refine g_yd rfl rfl (Ys.yd (ys_map_nil hT rfl rfl rfl Tryz.underlying79)) ?_
    (repeat (refine gG ?_; try intro _))
    refine g_yd rfl rfl ((ys_lookupG (S := [mpk r (Value.int .u32) M]) x rfl rfl rfl rfl Tryz.underlying79 kok_u zero_I (.head _)).ydS sF) ?_
    refine g_say 21 (.int .i64 (l.count x : Int)) rfl (hI.look x) ?_
    (repeat (refine gG ?_; try intro _))
    refine g_mv rfl (mv_mapUpdateG rfl x rfl rfl rfl rfl rfl Tryz.underlying79 kok_u (by first | ((repeat (first | with_reducible exact Upd.here _ | with_reducible apply Upd.there)); done) | ((repeat (first | exact Upd.here _ | apply Upd.there)); done) | fail) ?_)
    (repeat (refine gG ?_; try intro _))
    refine g_yd rfl rfl ((ys_lookupG (S := [mpk r (Value.int .u32) (msG x (.int .i64 (l.count x + 1 : Int)) M)]) x rfl rfl rfl rfl Tryz.underlying79 kok_u zero_I (.head _)).ydS sF) ?_
    refine g_say 35 (.int .i64 ((l ++ [x]).count x : Int)) rfl (hI2.look x) ?_
    (repeat (refine gG ?_; try intro _))
    refine gk_ret hT rfl rfl (.tmp rfl .nil) (fun w' hk => ?_)
    exact RetM.mkP (ll := fun T' => tbL2 t X T') (⟨some r, msG x (.int .i64 (l.count x + 1 : Int)) M, s + 1⟩ : TabS) hI2 rfl hk (fun b hb => (hE b).2 hb) (show SelAll [blk t [X.f, .map (some r), .int .i64 (s + 1), X.u, X.v, X.n] 100, mpk r (Value.int .u32) (msG x (.int .i64 (l.count x + 1 : Int)) M)] _ from sA)
end Go.Proofs.YtaghmffgoomebaaGreat.Al
