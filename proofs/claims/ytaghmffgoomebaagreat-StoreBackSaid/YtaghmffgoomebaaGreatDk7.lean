/- slices.Clone at bytes. A disk, plain: what is sure, what is late; what is read. A disk, as memory has it; spend, done. Late writes that may be are done. A disk: Flush, Crash, Write. A disk: Write, New. A new disk. slices.Backward over late writes. -/
import Derived.Test.YtaghmffgoomebaaGreatGxY
import Derived.Test.YtaghmffgoomebaaGreatCrcLaw
set_option linter.unusedVariables false
set_option linter.unusedSimpArgs false
namespace Go.Proofs.YtaghmffgoomebaaGreat.Dk
open Go.RowKit Mem Gx
set_option maxRecDepth 100000
set_option maxHeartbeats 2000000
theorem zfm : Elt Tryz.prog 23 5 1 1 := Elt.mk' (z := .int .u8 0) Tryz.underlying23 kR rfl (by decide)
theorem zgA (A : Option Addr) (n c : Nat) (L : List Int) (w : World) (hn : n = L.length) (hb : n ≤ 100000000) (hs : Sl w A 1 (IE .u8) L) :
 Calls Tryz.prog 48 [.slice A n c].toArray w (Ret (fun s : SlV => s.Ok L.length) SlV.v (fun s => [sl s.A 1 (IE .u8) L]) w) := by
 rcases A with _ | a
 ·have hL : L = [] := by
   rcases Nat.eq_zero_or_pos L.length with h | h
   ·exact List.length_eq_zero_iff.1 h
   ·obtain ⟨b, off, e, _⟩ := hs h; cases e
  subst hL
  refine zab T [] [] [] Tryz.func48 rfl Tryz.ntmps48 rfl (Kn.start _) ?_
  (repeat (refine gG ?_; try intro _))
  refine zba none 1 (IE .u8) ?_
  refine zad hT rfl rfl (.tmp rfl .nil) (fun w' hk => ?_)
  exact Ret.mk ⟨none, 0, 0⟩ ⟨rfl, Nat.le_refl _, Nat.zero_le _, fun _ => rfl⟩ rfl hk sA
 ·refine zab T [] [] [sl (some a) 1 (IE .u8) L] Tryz.func48 rfl Tryz.ntmps48 rfl ((Kn.start w).argR hs (by decide) (fun _ h => by cases h)) ?_
  (repeat (refine gG1 ?_; try intro _))
  refine g_mv rfl (zcZ 1 (IE .u8) rfl hT rfl rfl rfl rfl rfl (fun g => ?_))
  (repeat (refine gG1 ?_; try intro _))
  refine g_mv rfl (zac (L := []) rfl L rfl rfl rfl rfl zfm uD (zcG mE) hn (by intro x j; rfl) (by simp [maxLen]; omega) (by simp; omega) (Nat.zero_le _) (fun v => ?_))
  (repeat (refine gG1 ?_; try intro _))
  refine zaW _ uD (fun A2 c2 hA2 hA21 hA22 hA23 => ?_); subst hA2
  refine zad hT rfl rfl (.tmp rfl .nil) (fun w' hk => ?_)
  exact Ret.mk ⟨A2, _, c2⟩ ⟨by simp, hA21, hA22, hA23⟩ rfl hk sA
end Go.Proofs.YtaghmffgoomebaaGreat.Dk
namespace Go.Proofs.YtaghmffgoomebaaGreat.Dk
open Bytes
set_option maxRecDepth 100000
abbrev Sec := List Int
abbrev Wr := Nat × Sec
def lateOf (at' : Nat) : List Wr → Option Sec
 | [] => none
 | x :: W => match lateOf at' W with
   | some l => some l
   | none => if x.1 = at' then some x.2 else none
def dread (S : List Sec) (W : List Wr) (at' : Nat) : Sec := (lateOf at' W).getD (S[at']?.getD [])
theorem zeP (at' : Nat) (W : List Wr) (x : Wr) : lateOf at' (W ++ [x]) = if x.1 = at' then some x.2 else lateOf at' W := by
 induction W with
 | nil =>
   show (match (none : Option Sec) with | some l => some l | none => if x.1 = at' then some x.2 else none) = _
   rfl
 | cons y W ih =>
   show (match lateOf at' (W ++ [x]) with | some l => some l | none => if y.1 = at' then some y.2 else none) = _
   rw [ih]
   by_cases h : x.1 = at'
   ·rw [if_pos h, if_pos h]
   ·rw [if_neg h, if_neg h]
    rfl
theorem zkj (S : List Sec) (W : List Wr) (x : Wr) (at' : Nat) : dread S (W ++ [x]) at' = if x.1 = at' then x.2 else dread S W at' := by
 unfold dread
 rw [zeP]
 by_cases h : x.1 = at'
 ·rw [if_pos h, if_pos h]; rfl
 ·rw [if_neg h, if_neg h]
def SecOk (l : Sec) : Prop := l.length = 128 ∧ IsB l
end Go.Proofs.YtaghmffgoomebaaGreat.Dk
namespace Go.Proofs.YtaghmffgoomebaaGreat.Dk
open Go.RowKit Mem Gx Bytes
set_option maxRecDepth 100000
set_option maxHeartbeats 1000000
structure SecD where
 s : SlV
 L : List Int
instance : Inhabited SecD := ⟨⟨⟨none, 0, 0⟩, []⟩⟩
structure WrD where
 a : Nat
 d : SecD
instance : Inhabited WrD := ⟨⟨0, default⟩⟩
def SE : SecD → Nat → Value := fun x _ => .slice x.s.A x.s.n x.s.c
def WE : WrD → Nat → Value := fun x k => match k with
 | 0 => .int .i64 x.a
 | _ => .slice x.d.s.A x.d.s.n x.d.s.c
def WrD.val (x : WrD) : Value := .agg #[.int .i64 x.a, .slice x.d.s.A x.d.s.n x.d.s.c]
abbrev secF (d : SecD) : Fact := sl d.s.A 1 (IE .u8) d.L
abbrev wrF (x : WrD) : Fact := sl x.d.s.A 1 (IE .u8) x.d.L
structure SecD.Ok (d : SecD) : Prop where
 s : d.s.Ok d.L.length
 k : SecOk d.L
theorem zpV : Elt Tryz.prog 112 119 2 32 := Elt.mk' (z := .agg #[.int .i64 0, .slice none 0 0]) Tryz.underlying112 kR rfl (by decide)
theorem oneW : ∀ (x : WrD) (j : Nat), (WE x j).oneCell' = true := by intro x j; rcases j with _ | j <;> rfl
structure DkS where
 sv : Value
 lv : Value
 S : List SecD
 W : List WrD
structure DkS.Ok (s : DkS) : Prop where
 S : ∀ d ∈ s.S, d.Ok
 W : ∀ x ∈ s.W, x.d.Ok ∧ x.a < s.S.length
 n : s.S.length ≤ 4096
abbrev dkL (g : Nat) (s : DkS) : List Fact := [blk g [s.sv, s.lv, .bool false, .int .i64 0] 114, own 0 23 1 s.sv SE s.S, own 0 119 2 s.lv WE s.W, allF s.S secF, allF s.W wrF]
abbrev dkF (g : Nat) (s : DkS) : Fact := packF (dkL g s)
theorem zqa {S : List SecD} {i : Nat} {d : SecD} : Der [allF S secF, secF d] (allF (S.set i d) secF) := .all fun x hx => by
 rcases List.mem_or_eq_of_mem_set hx with h | rfl
 ·exact Der.elem (L := S) (F := secF) (.mem (.head _)) h
 ·exact .mem (.tail _ (.head _))
theorem zes {W : List WrD} {x : WrD} : Der [allF W wrF, wrF x] (allF (W ++ [x]) wrF) := .all fun y hy => by
 rcases List.mem_append.1 hy with h | h
 ·exact Der.elem (L := W) (F := wrF) (.mem (.head _)) h
 ·obtain rfl := m1 h
  exact .mem (.tail _ (.head _))
theorem zoc (g : Nat) (sv lv : Value) (w : World) (hB : Rd1 w (blk g [sv, lv, .bool false, .int .i64 0] 114)) : Calls Tryz.prog 73 [.pointer (some ⟨g, 0, none⟩)].toArray w fun e w' => e = .returned (.bool false) ∧ Below w.heap.size w w' := by
 refine zab T [] [] [blk g [sv, lv, .bool false, .int .i64 0] 114] Tryz.func73 rfl Tryz.ntmps73 rfl (Rds.cons hB .nil).kn ?_
 refine za9 (g := g) mE ?_
 (repeat' (first | (refine gH ?_; try intro _) | (refine gS ?_ ?_ <;> intro _) | fail))
 refine zad hT rfl rfl (.tmp rfl .nil) (fun w' hk => ?_)
 exact ⟨rfl, hk.toBelow⟩
theorem zkC (g : Nat) (sv lv : Value) (w : World) (hB : Rd1 w (blk g [sv, lv, .bool false, .int .i64 0] 114)) : Calls Tryz.prog 47 [.pointer (some ⟨g, 0, none⟩)].toArray w fun e w' => e = .returned (.bool true) ∧ Below w.heap.size w w' := by
 refine zab T [] [] [blk g [sv, lv, .bool false, .int .i64 0] 114] Tryz.func47 rfl Tryz.ntmps47 rfl (Rds.cons hB .nil).kn ?_
 (repeat' (first | (refine gH ?_; try intro _) | (refine g_mv rfl ?_; refine cb (fun w hk => zoc g sv lv w (hk.rR mE)) ?_) | (refine gS ?_ ?_ <;> intro _) | fail))
 refine g_rowR (g := g) mE ?_
 (repeat' (first | (refine gH ?_; try intro _) | (refine gS ?_ ?_ <;> intro _) | fail))
 refine zad hT rfl rfl (.tmp rfl .nil) (fun w' hk => ?_)
 exact ⟨rfl, hk.toBelow⟩
end Go.Proofs.YtaghmffgoomebaaGreat.Dk
namespace Go.Proofs.YtaghmffgoomebaaGreat.Dk
open Go.RowKit Mem Gx Bytes
set_option maxRecDepth 100000
set_option maxHeartbeats 1000000
abbrev WrD.c (x : WrD) : Wr := (x.a, x.d.L)
end Go.Proofs.YtaghmffgoomebaaGreat.Dk
namespace Go.Proofs.YtaghmffgoomebaaGreat.Dk
open Go.RowKit Mem Gx Bytes
set_option maxRecDepth 100000
set_option maxHeartbeats 1000000
structure DkOk (S : List SecD) (W : List WrD) : Prop where
 s : ∀ d ∈ S, d.Ok
 w : ∀ x ∈ W, x.d.Ok ∧ x.a < S.length
 n : S.length ≤ 4096
end Go.Proofs.YtaghmffgoomebaaGreat.Dk
namespace Go.Proofs.YtaghmffgoomebaaGreat.Dk
open Go.RowKit Mem Gx Bytes
set_option maxRecDepth 100000
set_option maxHeartbeats 1000000
theorem zkg (g : Nat) (sv lv : Value) (S : List SecD) (W : List WrD) (a : Nat) (bA : Option Addr) (bn bc : Nat) (B : List Int) (w : World) (ho : DkOk S W) (hl : W.length ≤ 100000) (ha : a < S.length) (hbn : bn = B.length) (hB : SecOk B) (h : Rd1 w (dkF g ⟨sv, lv, S, W⟩)) (hb : Rd1 w (sl bA 1 (IE .u8) B)) (hbd : ∀ b, (dkF g ⟨sv, lv, S, W⟩).S b → ¬ (sl bA 1 (IE .u8) B).S b) :
 Calls Tryz.prog 26 [.pointer (some ⟨g, 0, none⟩), .int .i64 (a : Nat), .slice bA bn bc].toArray w (RetM (dkF g ⟨sv, lv, S, W⟩) (fun q : Value × SecD => q.2.Ok ∧ q.2.L = B) (fun _ => .int .i64 0) (fun q => dkF g ⟨sv, q.1, S, W ++ [(⟨a, q.2⟩ : WrD)]⟩) w) := by
 obtain ⟨uA, uc, rfl, _, _, _, _⟩ := zcw (α := SecD) (Rd1.unpack h (φ := own 0 23 1 sv SE S) (.tail _ (.head _)))
 have hk0 : Kn (finE (dkF g ⟨.slice uA S.length uc, lv, S, W⟩) w) w w (dkL g ⟨.slice uA S.length uc, lv, S, W⟩) [sl bA 1 (IE .u8) B] := Kn.startP h (fun b hb => (zaB h.2 b).2 hb) (fun ψ hψ => by obtain rfl := m1 hψ; exact ⟨hb, hbd⟩)
 have hfin : ∀ b, b ∈ finE (dkF g ⟨.slice uA S.length uc, lv, S, W⟩) w → (dkF g ⟨.slice uA S.length uc, lv, S, W⟩).S b := fun b hb => (zaB h.2 b).1 hb
 have hn := ho.n
 have h128 : B.length = 128 := hB.1
 refine zab T (finE (dkF g ⟨.slice uA S.length uc, lv, S, W⟩) w) [blk g [.slice uA S.length uc, lv, .bool false, .int .i64 0] 114, own 0 23 1 (.slice uA S.length uc) SE S, own 0 119 2 lv WE W, allF S secF, allF W wrF] [sl bA 1 (IE .u8) B] Tryz.func26 rfl Tryz.ntmps26 rfl hk0 ?_
 (repeat' (first | (refine gH ?_; try intro _) | (refine gS ?_ ?_ <;> intro _) | fail))
 (repeat' (first | (refine gH ?_; try intro _) | (refine g_mv rfl ?_; refine cb (fun w hk => zkC g (.slice uA S.length uc) lv w (hk.rO (φ := blk g [.slice uA S.length uc, lv, .bool false, .int .i64 0] 114) mE)) ?_) | (refine gS ?_ ?_ <;> intro _) | fail))
 refine zas [] (Cut _ (fun _ : Value × {d : SecD // d.Ok ∧ d.L = B} => []) (fun q => [blk g [.slice uA S.length uc, q.1, .bool false, .int .i64 0] 114, own 0 23 1 (.slice uA S.length uc) SE S, own 0 119 2 q.1 WE (W ++ [⟨a, q.2.1⟩]), allF S secF, allF W wrF, secF q.2.1]) (fun _ => [])) rfl rfl kR ?_ (zaD fun q => ?_)
 ·skip
  refine gY hT 0 ?_
  refine gY hT 1 ?_
  refine gY hT 2 ?_
  refine gY hT 3 ?_
  refine gY hT 5 ?_
  refine gY hT 6 ?_
  refine gA2 4 7 ?_ ?_
  ·refine zaC rfl (zaf hT rfl rfl mE rfl rfl) ?_
   refine ⟨sF, ?_⟩
   refine gP 7 ?_
   refine za3 (fun w hk => zgA bA bn bc B w hbn (by omega) (hk.rR (φ := sl bA 1 (IE .u8) B) mE).1) rfl rfl rfl rfl rfl kR (fun _ => rfl) (fun ⟨cA, cn, cc⟩ hs => ?_)
   refine ⟨sF, ?_⟩
   try (refine zam 32 (.slice cA cn cc) rfl rfl ?_)
   refine gY hT 8 ?_
   first | refine gO 9 ?_ | (refine gX 9 ?_; intro _)
   refine gP 10 ?_
   refine zac (L := W) rfl [(⟨a, ⟨⟨cA, cn, cc⟩, B⟩⟩ : WrD)] rfl rfl rfl rfl zpV uD (zah mE rfl) rfl oneW sM sN (Nat.zero_le _) (fun v1 => ?_)
   refine ⟨sF, ?_⟩
   refine zai v1 mE (fun A1 c1 hv1 _ _ _ => ?_); subst hv1
   refine gY hT 11 ?_
   refine gY hT 12 ?_
   first | refine gO 13 ?_ | (refine gX 13 ?_; intro _)
   refine zak dK ?_
   exact ⟨(.slice A1 (W ++ [(⟨a, ⟨⟨cA, cn, cc⟩, B⟩⟩ : WrD)]).length c1, ⟨⟨⟨cA, cn, cc⟩, B⟩, ⟨hs, hB⟩, rfl⟩), fS, sA, sS⟩
  ·refine za3 (fun w hk => zgA bA bn bc B w hbn (by omega) (hk.rR (φ := sl bA 1 (IE .u8) B) mE).1) rfl rfl rfl rfl rfl kR (fun _ => rfl) (fun ⟨cA, cn, cc⟩ hs => ?_)
   refine ⟨sF, ?_⟩
   try (refine zam 32 (.slice cA cn cc) rfl rfl ?_)
   refine gY hT 8 ?_
   refine gA2 4 9 ?_ ?_
   ·refine zaC rfl (zaf hT rfl rfl mE rfl rfl) ?_
    refine ⟨sF, ?_⟩
    first | refine gO 9 ?_ | (refine gX 9 ?_; intro _)
    refine gP 10 ?_
    refine zac (L := W) rfl [(⟨a, ⟨⟨cA, cn, cc⟩, B⟩⟩ : WrD)] rfl rfl rfl rfl zpV uD (zah mE rfl) rfl oneW sM sN (Nat.zero_le _) (fun v1 => ?_)
    refine ⟨sF, ?_⟩
    refine zai v1 mE (fun A1 c1 hv1 _ _ _ => ?_); subst hv1
    refine gY hT 11 ?_
    refine gY hT 12 ?_
    first | refine gO 13 ?_ | (refine gX 13 ?_; intro _)
    refine zak dK ?_
    exact ⟨(.slice A1 (W ++ [(⟨a, ⟨⟨cA, cn, cc⟩, B⟩⟩ : WrD)]).length c1, ⟨⟨⟨cA, cn, cc⟩, B⟩, ⟨hs, hB⟩, rfl⟩), fS, sA, sS⟩
   ·first | (refine zaT rfl rfl rfl rfl ?_; intro _) | (refine zay rfl hT rfl rfl ?_; intro _) | refine zat hT rfl rfl rfl rfl rfl rfl sO rfl ?_ | (refine zaa rfl hT rfl rfl rfl rfl rfl rfl rfl rfl ?_; intro _)
    refine ⟨sF, ?_⟩
    refine gP 4 ?_
    refine zaC rfl (zaf hT rfl rfl mE rfl rfl) ?_
    refine ⟨sF, ?_⟩
    refine gP 10 ?_
    refine zac (L := W) rfl [(⟨a, ⟨⟨cA, cn, cc⟩, B⟩⟩ : WrD)] rfl rfl rfl rfl zpV uD (zah mE rfl) rfl oneW sM sN (Nat.zero_le _) (fun v1 => ?_)
    refine ⟨sF, ?_⟩
    refine zai v1 mE (fun A1 c1 hv1 _ _ _ => ?_); subst hv1
    refine gY hT 11 ?_
    refine gY hT 12 ?_
    first | refine gO 13 ?_ | (refine gX 13 ?_; intro _)
    refine zak dK ?_
    exact ⟨(.slice A1 (W ++ [(⟨a, ⟨⟨cA, cn, cc⟩, B⟩⟩ : WrD)]).length c1, ⟨⟨⟨cA, cn, cc⟩, B⟩, ⟨hs, hB⟩, rfl⟩), fS, sA, sS⟩
 ·obtain ⟨v1, d, hd, hdB⟩ := q
  dsimp only
  (repeat (refine gG ?_; try intro _))
  refine zgq [allF W wrF, secF d] [blk g [.slice uA S.length uc, v1, .bool false, .int .i64 0] 114, own 0 23 1 (.slice uA S.length uc) SE S, own 0 119 2 v1 WE (W ++ [⟨a, d⟩]), allF S secF] (zes (x := ⟨a, d⟩)) sA ?_
  refine zad hT rfl rfl (.tmp rfl .nil) (fun w' hk => ?_)
  exact RetM.mkP (ll := fun q : Value × SecD => dkL g ⟨.slice uA S.length uc, q.1, S, W ++ [(⟨a, q.2⟩ : WrD)]⟩) (v1, d) ⟨hd, hdB⟩ rfl hk hfin sA
end Go.Proofs.YtaghmffgoomebaaGreat.Dk
namespace Go.Proofs.YtaghmffgoomebaaGreat.Dk
open Go.RowKit Mem Gx Bytes
set_option maxRecDepth 100000
set_option maxHeartbeats 1000000
abbrev zsec : List Int := List.replicate 128 0
abbrev nilSec : SecD := ⟨⟨none, 0, 0⟩, []⟩
theorem zo2 : SecOk zsec := ⟨by simp, fun x hx => by have := List.eq_of_mem_replicate hx; omega⟩
theorem zmq {g T : Nat} {cs : List Value} {α : Type} [Inhabited α] {sz : Nat} {enc : α → Nat → Value} {M : List α} (he : cs = flatF sz enc M) : Der [blk g cs T] (sl (some ⟨g, 0, none⟩) sz enc M) := ⟨fun w hw => by
 have hb : w.heap[g]? = some (.cells cs.toArray T (0, 0)) := hw _ (.head _)
 intro hn
 refine ⟨g, 0, rfl, fun i hi j hj => ?_⟩
 have hy : M[i]? = some M[i] := List.getElem?_eq_getElem hi
 rw [Nat.zero_add, cell_of_row w g _ cs.toArray T (0, 0) hb, zfg hy, he]
 simpa using zbe sz enc M i j _ hy hj, fun b hb => by
  obtain ⟨_, a, ha, hb⟩ := hb
  injection ha with ha
  subst ha
  subst hb
  exact ⟨_, .head _, rfl⟩⟩
theorem zpX {l : List Fact} {α : Type} [Inhabited α] {sz : Nat} {enc : α → Nat → Value} : Der l (sl none sz enc ([] : List α)) := ⟨fun w _ h => absurd h (Nat.lt_irrefl 0), fun b hb => by
 obtain ⟨_, a, ha, _⟩ := hb
 cases ha⟩
theorem ze2 {α : Type} (sz : Nat) (enc : α → Nat → Value) (y : α) : ∀ L : List α, flatF sz enc (L ++ [y]) = flatF sz enc L ++ encF enc y 0 sz
 | [] => List.append_nil _
 | x :: L => by
   show encF enc x 0 sz ++ flatF sz enc (L ++ [y]) = _
   rw [ze2 sz enc y L, ← List.append_assoc]
   rfl
theorem ziM : ∀ n, rep n [.slice none 0 0] = flatF 1 SE (List.replicate n nilSec)
 | 0 => rfl
 | n + 1 => by
   show rep n [.slice none 0 0] ++ [.slice none 0 0] = _
   rw [List.replicate_succ', ze2, ziM n]
   rfl
theorem zf1 (z : List Value) : ∀ n, (rep n z).length = n * z.length
 | 0 => (Nat.zero_mul _).symm
 | n + 1 => by
   show (rep n z ++ z).length = _
   rw [List.length_append, zf1 z n, Nat.succ_mul]
theorem zrep : rep 128 [.int .u8 0] = flatF 1 (IE .u8) zsec := by kernel_rfl
theorem zn4 (n : Nat) (h1 : 1 ≤ n) (h9 : n ≤ 4096) (w : World) :
 Calls Tryz.prog 24 [.int .i64 (n : Nat)].toArray w (Ret (fun q : Nat × Value × List SecD => (∀ d ∈ q.2.2, d.Ok) ∧ q.2.2.map SecD.L = List.replicate n zsec) (fun q => .tuple #[.pointer (some ⟨q.1, 0, none⟩), .int .i64 0]) (fun q => [dkF q.1 ⟨q.2.1, .slice none 0 0, q.2.2, []⟩]) w) := by
 refine zab T [] [] [] Tryz.func24 rfl Tryz.ntmps24 rfl (Kn.start _) ?_
 (repeat' (first | (refine gH ?_; try intro _) | (refine gS ?_ ?_ <;> intro _) | fail))
 refine g_mv rfl (zlj rfl hT n 24 rfl rfl rfl rfl rfl rfl rfl kR (by omega) (by omega) rfl rfl (fun g1 => ?_))
 refine ze0 (sz := 1) (enc := SE) (n := n) (c := n) (base := 0) (List.replicate n nilSec) (by decide) (by first | ((repeat (first | with_reducible exact Upd.here _ | with_reducible apply Upd.there)); done) | ((repeat (first | exact Upd.here _ | apply Upd.there)); done) | fail) (by rw [zf1]; rfl) (by rw [List.length_replicate]) (Nat.le_refl _) (by unfold maxLen; omega) (Nat.zero_le _) (by rw [List.take_of_length_le (by rw [zf1]; exact Nat.le_refl _), ziM]) ?_
 (repeat (refine gG ?_; try intro _))
 rename_i g2
 refine zgq [] [blk g2 [.slice (some ⟨g1, 0, none⟩) n n, .slice none 0 0, .bool false, .int .i64 0] 114, own 0 23 1 (.slice (some ⟨g1, 0, none⟩) n n) SE (List.replicate n nilSec)] (φ := allF (List.replicate n nilSec) secF) (.all fun x hx => by rw [List.eq_of_mem_replicate hx]; exact zpX) sA ?_
 refine gL2 (fun (S : (List SecD)) (i : Nat) => (i ≤ n ∧ S.length = n ∧ ∀ j d, j < i → S[j]? = some d → d.Ok ∧ d.L = zsec)) (fun S i => [(0, .int .i64 (n : Nat)), (4, .pointer (some ⟨g2, 0, none⟩)), (20, .int .i64 (n : Nat)), (21, .int .i64 i)]) (fun S i => [blk g2 [.slice (some ⟨g1, 0, none⟩) n n, .slice none 0 0, .bool false, .int .i64 0] 114, own 0 23 1 (.slice (some ⟨g1, 0, none⟩) n n) SE S, allF S secF]) (fun S i => []) (fun S i => n - i) (List.replicate n nilSec) 0 ⟨Nat.zero_le _, List.length_replicate, fun j d hj => absurd hj (Nat.not_lt_zero _)⟩ ?_
 rintro S i hI
 obtain ⟨hin, hSl, hSo⟩ := hI
 by_cases hlt : i < n
 ·(repeat' (first | (refine gH ?_; try intro _) | (refine gS ?_ ?_ <;> intro _) | fail))
  obtain ⟨d0, hd0⟩ : ∃ d, S[i]? = some d := ⟨S[i], List.getElem?_eq_getElem (by omega)⟩
  refine zas [0] (Cut _ (fun _ : Nat => [(0, .int .i64 (n : Nat)), (4, .pointer (some ⟨g2, 0, none⟩)), (20, .int .i64 (n : Nat)), (21, .int .i64 i)]) (fun g6 => [blk g2 [.slice (some ⟨g1, 0, none⟩) n n, .slice none 0 0, .bool false, .int .i64 0] 114, own 0 23 1 (.slice (some ⟨g1, 0, none⟩) n n) SE (S.set i ⟨⟨some ⟨g6, 0, none⟩, 128, 128⟩, zsec⟩), allF S secF, blk g6 (rep 128 [.int .u8 0]) 5]) (fun _ => [])) rfl rfl kR ?_ (zaD fun g6 => ?_)
  ·skip
   refine gY hT 0 ?_
   refine gY hT 1 ?_
   refine gY hT 2 ?_
   refine gW hT 3 ?_
   refine gY hT 4 ?_
   refine gP 5 ?_
   (refine zlj rfl hT 128 1 rfl rfl rfl rfl rfl rfl rfl kR (by omega) (by omega) rfl rfl ?_; intro g6)
   refine ⟨sF, ?_⟩
   refine gY hT 6 ?_
   refine gP 7 ?_
   refine zbL (enc := SE) (sz := 1) hT i 0 d0 ⟨⟨some ⟨g6, 0, none⟩, 128, 128⟩, zsec⟩ rfl rfl (by omega) rfl rfl rfl rfl hd0 (by decide) (fun b hb hne => by omega) rfl (by first | ((repeat (first | with_reducible exact Upd.here _ | with_reducible apply Upd.there)); done) | ((repeat (first | exact Upd.here _ | apply Upd.there)); done) | fail) rfl ?_
   refine ⟨sF, ?_⟩
   refine zak dK ?_
   exact ⟨g6, fS, sA, sS⟩
  ·refine zgq [allF S secF, blk g6 (rep 128 [.int .u8 0]) 5] [blk g2 [.slice (some ⟨g1, 0, none⟩) n n, .slice none 0 0, .bool false, .int .i64 0] 114, own 0 23 1 (.slice (some ⟨g1, 0, none⟩) n n) SE (S.set i ⟨⟨some ⟨g6, 0, none⟩, 128, 128⟩, zsec⟩)] (φ := allF (S.set i ⟨⟨some ⟨g6, 0, none⟩, 128, 128⟩, zsec⟩) secF) (Der.trans zqa fun ψ hψ => by
    rcases List.mem_cons.1 hψ with rfl | hψ
    ·exact .mem (.head _)
    ·obtain rfl := m1 hψ
     exact Der.trans (zmq zrep) fun χ hχ => .mem (.tail _ hχ)) sA ?_
   (repeat (refine gG ?_; try intro _))
   refine zag rfl (S.set i ⟨⟨some ⟨g6, 0, none⟩, 128, 128⟩, zsec⟩, i + 1) ⟨hlt, by rw [List.length_set]; exact hSl, fun j d hj hd => by
    by_cases hji : j = i
    ·subst hji
     rw [List.getElem?_set, if_pos rfl, if_pos (by omega)] at hd
     obtain rfl := Option.some.inj hd
     exact ⟨⟨⟨rfl, Nat.le_refl _, by show 128 ≤ maxLen; unfold maxLen; omega, fun h => by cases h⟩, zo2⟩, rfl⟩
    ·rw [List.getElem?_set_ne (fun h => hji h.symm)] at hd
     exact hSo j d (by omega) hd⟩ (by dsimp only; omega) fS sA sS
 ·have hie : i = n := by omega
  subst hie
  (repeat' (first | (refine gH ?_; try intro _) | (refine gS ?_ ?_ <;> intro _) | fail))
  refine zbO 0 119 2 WE ?_
  refine zgq [] [blk g2 [.slice (some ⟨g1, 0, none⟩) i i, .slice none 0 0, .bool false, .int .i64 0] 114, own 0 23 1 (.slice (some ⟨g1, 0, none⟩) i i) SE S, own 0 119 2 (.slice none 0 0) WE [], allF S secF] (φ := allF ([] : List WrD) wrF) (.all fun x hx => by cases hx) sA ?_
  refine zbv (dkL g2 ⟨.slice (some ⟨g1, 0, none⟩) i i, .slice none 0 0, S, []⟩) [] sA ?_
  refine zad hT rfl rfl (.tmp rfl (.tmp rfl .nil)) (fun w' hk => ?_)
  exact Ret.mk (g2, .slice (some ⟨g1, 0, none⟩) i i, S) ⟨fun d (hd : d ∈ S) => by
   obtain ⟨j, hj⟩ := List.getElem?_of_mem hd
   exact (hSo j d (by have := (List.getElem?_eq_some_iff.1 hj).1; omega) hj).1, by
   show S.map SecD.L = _
   apply List.ext_getElem?
   intro j
   rw [List.getElem?_map, List.getElem?_replicate]
   by_cases hj : j < i
   ·obtain ⟨d, hd⟩ : ∃ d, S[j]? = some d := ⟨S[j], List.getElem?_eq_getElem (by omega)⟩
    rw [hd, if_pos hj]
    exact congrArg some (hSo j d hj hd).2
   ·rw [List.getElem?_eq_none (by omega), if_neg hj]
    rfl⟩ rfl hk sA
end Go.Proofs.YtaghmffgoomebaaGreat.Dk
namespace Go.Proofs.YtaghmffgoomebaaGreat.Dk
open Go.RowKit Mem Gx Bytes
set_option maxRecDepth 100000
set_option maxHeartbeats 1000000
def backs (W : List WrD) : List (Nat × WrD) := (W.zipIdx.map fun p => (p.2, p.1)).reverse
theorem zfb (W : List WrD) : (backs W).length = W.length := by unfold backs; simp
theorem zjF {W : List WrD} {q i : Nat} {x : WrD} (h : q + i + 1 = W.length) (hx : W[i]? = some x) : (backs W)[q]? = some (i, x) := by
 unfold backs
 rw [List.getElem?_reverse (by simp; omega), List.getElem?_map, List.getElem?_zipIdx]
 simp only [List.length_map, List.length_zipIdx]
 rw [show W.length - 1 - q = i by omega, hx]
 simp
theorem zol (lA : Option Addr) (n lc : Nat) (w : World) :
 Calls Tryz.prog 106 [.slice lA n lc].toArray w (Ret (fun _ : Nat => True) (fun s => .func (.func 126) #[] #[.pointer (some ⟨s, 0, none⟩)]) (fun s => [blk s [.slice lA n lc] 112]) w) := by
 refine zab T [] [] [] Tryz.func106 rfl Tryz.ntmps106 rfl (Kn.start _) ?_
 (repeat (refine gG ?_; try intro _))
 rename_i g1
 refine g_yd rfl rfl (Ys.yd (zgK rfl rfl rfl)) ?_
 (repeat (refine gG ?_; try intro _))
 refine zad hT rfl rfl (.tmp rfl .nil) (fun w' hk => ?_)
 exact Ret.mk g1 trivial rfl hk sA
theorem zmJ (W : List WrD) (lA : Option Addr) (n lc bt : Nat) (w1 : World) (hn : n = W.length) (h9 : n ≤ 100000) (hB : Rds w1 [blk bt [.slice lA n lc] 112, sl lA 2 WE W]) :
 IterOk Tryz.prog 126 [.pointer (some ⟨bt, 0, none⟩)] (fun p : Nat × WrD => [.int .i64 (p.1 : Nat), p.2.val]) (backs W) [blk bt [.slice lA n lc] 112, sl lA 2 WE W] w1 := by
 intro l τ Γ Iv Dn t0 h0 hΓ hdis hY
 refine zab T (finE (Γ t0) w1) [Γ t0] [blk bt [.slice lA n lc] 112, sl lA 2 WE W] Tryz.func126 rfl Tryz.ntmps126 rfl (Kn.startM hΓ (fun b hb => (zaB hΓ.2 b).2 hb) (fun ψ hψ => ⟨hB.mem hψ, fun b h1 => hdis ψ hψ b h1⟩)) ?_
 refine za9 (g := bt) mE ?_
 (repeat (refine gG ?_; try intro _))
 refine zbs 3 (.int .i64 ((n : Int) - 1 - ((0 : Nat) : Int))) rfl (by congr 1; omega) ?_
 refine gL2 (fun (m : Nat) (t : τ) => (m ≤ n ∧ Iv m t)) (fun m t => [(0, .func (.yield l) #[] #[]), (1, .pointer (some ⟨bt, 0, none⟩)), (3, .int .i64 ((n : Int) - 1 - (m : Nat)))]) (fun m t => [Γ t]) (fun m t => [row bt 0 [.slice lA n lc], blk bt [.slice lA n lc] 112, sl lA 2 WE W]) (fun m t => n - m) 0 t0 ⟨Nat.zero_le _, h0⟩ ?_
 rintro m t hI
 obtain ⟨hmn, hiv⟩ := hI
 by_cases hlt : m < n
 ·obtain ⟨i, hi⟩ : ∃ i, m + i + 1 = n := ⟨n - m - 1, by omega⟩
  obtain ⟨x, hx⟩ : ∃ x, W[i]? = some x := ⟨W[i], List.getElem?_eq_getElem (by omega)⟩
  have hxm := zjF (q := m) (by omega) hx
  refine zbs 3 (.int .i64 ((i : Nat) : Int)) rfl (by first | (congr 1; done) | (congr 1; omega)) ?_
  refine zar (enc := WE) (L := W) i mE (by omega) (by decide) (fun b2 o2 y2 eA2 hy2 => ?_)
  subst eA2
  obtain rfl : x = y2 := by rw [hx] at hy2; exact Option.some.inj hy2
  (repeat' (first | (refine gH ?_; try intro _) | (refine gS ?_ ?_ <;> intro _) | fail))
  refine zaK 16 x.val rfl rfl ?_
  refine zia Γ t (fun b t2 => (b = true → Iv (m + 1) t2) ∧ (b = false → Dn t2)) rfl rfl rfl rfl rfl rfl (fun w hk => hY m (i, x) t w hxm hiv (hk.outM (fun b hb => zbT b hb) mE)) uD (fun b t2 hJ => ?_)
  cases b with
  | true =>
    (repeat (refine gG ?_; try intro _))
    refine zbs 3 (.int .i64 ((n : Int) - 1 - ((m + 1 : Nat) : Int))) rfl (by congr 1; omega) ?_
    refine zag rfl (m + 1, t2) ⟨hlt, hJ.1 rfl⟩ (by dsimp only; omega) fS sA sS
  | false =>
    (repeat (refine gG ?_; try intro _))
    refine zad hT rfl rfl .nil (fun w' hk => ?_)
    exact ⟨⟨_, rfl⟩, t2, hk.outM (fun b hb => zbT b hb) mE, .inr (hJ.2 rfl)⟩
 ·obtain rfl : m = n := by omega
  refine zbs 3 (.int .i64 (-1)) rfl (by congr 1; omega) ?_
  (repeat' (first | (refine gH ?_; try intro _) | (refine gS ?_ ?_ <;> intro _) | fail))
  refine zdG hT rfl rfl .nil (fun w' hk => ?_)
  exact ⟨⟨_, rfl⟩, t, hk.outM (fun b hb => zbT b hb) mE, .inl (by rw [zfb, ← hn]; exact hiv)⟩
end Go.Proofs.YtaghmffgoomebaaGreat.Dk
