/- A tree's state, call by call: Set and Delete of any tree, one with a root or none. Calls of a tree as arguments; a key. The law's Step (layer 31). walk.Nodes: level by level. Trees as data: which nodes a change leaves (plain; no program). -/
import Derived.Test.YtaghmffgoomebaaGreatTd
import Derived.Test.YtaghmffgoomebaaGreatTh
import Derived.Test.YtaghmffgoomebaaGreatNd2
import Derived.Test.YtaghmffgoomebaaGreatFlat3
set_option linter.unusedVariables false
set_option linter.unusedSimpArgs false
namespace Go.Proofs.YtaghmffgoomebaaGreat.Tw
open Go.RowKit Mem Nd Gx Sk
open Tr hiding T row
set_option maxRecDepth 100000
set_option maxHeartbeats 4000000
structure StO where
 a : Option AT
 M : List EntD
 was : Int
 had : Bool
def SetX : Option AT → EntD → Option AT → Prop
 | none, e, b => ∃ d, b = some ⟨0, ((d, [e]) : NodeD × List EntD)⟩ ∧ IsLeaf [e] d
 | some a, e, b => ∃ c, b = some c ∧ SetS a.t e c
def DelX : Option AT → KeyD → Bool → Option AT → Prop
 | none, _, _, b => b = none
 | some a, k, had, b => (had = false → b = some a) ∧ (had = true → DelS a.t k b)
structure StSet (a : Option AT) (L : List EntD) (e : EntD) (s : StO) : Prop where
 p : ∃ p, PosK (keysOf L) e.k p ∧ s.M = setAt L e p ∧ s.had = tB ((keysOf L)[p]? = some e.k) ∧ s.was = (if s.had = true then (L.getD p default).a else 0)
 has : HasO s.a s.M
 x : SetX a e s.a
structure StDel (a : Option AT) (L : List EntD) (k : KeyD) (s : StO) : Prop where
 p : ∃ p, PosK (keysOf L) k p ∧ s.M = delAt L k p ∧ s.had = tB ((keysOf L)[p]? = some k) ∧ s.was = (if s.had = true then (L.getD p default).a else 0)
 has : HasO s.a s.M
 x : DelX a k s.had s.a
theorem zgZ {σ τ : Type} {g T : Nat} {I : σ → Prop} {V : σ → Value} {CS : σ → List Value} {FF : σ → List Fact} {RA : List Fact} {J : τ → Prop} {V' : τ → Value} {CS' : τ → List Value} {F' : τ → Fact} {RB : List Fact} {w : World} {e : Ending} {w' : World}
 (h : RetX g T I V CS FF RA w e w') (f : ∀ s, I s → ∃ s', J s' ∧ V s = V' s' ∧ CS s = CS' s' ∧ Der (FF s) (F' s')) (hRA : ∀ ψ, ψ ∈ RA → ∀ b, ψ.S b → ∃ χ, χ ∈ RB ∧ χ.S b) : RetX g T J V' CS' (fun s => [F' s]) RB w e w' := by
 obtain ⟨s, hI, he, hf, hr⟩ := h
 obtain ⟨s', h1, h2, h3, h4⟩ := f s hI
 refine ⟨s', h1, by rw [he, h2], by rw [← h3]; exact hf, .cons ⟨h4.p w' fun ψ hψ => (hr.mem hψ).1, fun b hb => ?_⟩ .nil⟩
 obtain ⟨ψ, h5, h6⟩ := h4.S b hb
 obtain ⟨h7, h8⟩ := (hr.mem h5).2 b h6
 exact ⟨h7, h8.imp id fun ⟨χ, h9, h10⟩ => hRA χ h9 b h10⟩
theorem zhy (a : AT) : Der [treeF a.h a.t] (stF (some a)) := Der.all fun x hx => by
 obtain rfl := m1 hx
 exact Der.mem (.head _)
theorem st_S {a : AT} {b : Nat} (h : (treeF a.h a.t).S b) : (stF (some a)).S b := ⟨a, .head _, h⟩
theorem zfr (a : AT) : Der [stF (some a)] (treeF a.h a.t) := Der.elem (L := [a]) (F := fun a : AT => treeF a.h a.t) (Der.mem (.head _)) (.head _)
theorem zpa {w : World} {a : AT} (h : Rd1 w (stF (some a))) : Rd1 w (treeF a.h a.t) := (zfr a).rd fun ψ hψ => by obtain rfl := m1 hψ; exact h
theorem zhI {L : List EntD} {e : EntD} {p : Nat} (hp : PosK (keysOf L) e.k p) : (setAt L e p).length = (if tB ((keysOf L)[p]? = some e.k) = true then L.length else L.length + 1) := by
 have := hp.le
 rw [List.length_map] at this
 unfold setAt
 split
 ·rw [List.length_set]
 ·simp only [List.length_append, List.length_take, List.length_drop, List.length_cons, List.length_nil]; omega
theorem zik {L : List EntD} {k : KeyD} {p : Nat} (hp : PosK (keysOf L) k p) : (delAt L k p).length = (if tB ((keysOf L)[p]? = some k) = true then L.length - 1 else L.length) := by
 unfold delAt
 split
 ·rename_i h
  have := (List.getElem?_eq_some_iff.1 (zaQ.1 h)).1
  rw [List.length_map] at this
  simp only [List.length_append, List.length_take, List.length_drop]; omega
 ·rfl
theorem zkX (k : KeyD) : PosK (keysOf []) k 0 := ⟨Nat.le_refl _, fun m h => absurd h (by omega), fun m _ h => absurd h (by simp)⟩
theorem zga (k : KeyD) : tB ((keysOf [])[0]? = some k) = false := zaj (by simp)
theorem set_nil (e : EntD) (tg : Nat) (w : World) (hB : w.heap[tg]? = some (.cells [.pointer none, .int .i64 0].toArray 55 (0, 0))) :
 Calls Tryz.prog 33 [.pointer (some ⟨tg, 0, none⟩), e.val].toArray w (RetX tg 55 (StSet none [] e) (fun s => .tuple #[.int .u32 s.was, .bool s.had]) (fun s => [rootV s.a, .int .i64 (s.M.length : Int)]) (fun s => [stF s.a]) [stF none] w) := by
 refine zab T [tg] [blk tg [.pointer none, .int .i64 0] 55] [] Tryz.func33 rfl Tryz.ntmps33 rfl (Kn.startW hB) ?_
 (repeat (refine gG ?_; try intro _))
 rename_i g3
 refine cR (fun w hk => zkr e.k tg 0 w (hk.rO mE)) (fun sg _ => ?_)
 (repeat (refine gG ?_; try intro _))
 rename_i g5
 refine cR (fun w hk => zdA (some ⟨g5, 0, none⟩) 1 1 [e] w rfl (by simp) (zcI (hk.pO (blk g5 [.int .u16 e.k.v, .int .u32 e.k.b, .int .u64 e.k.s, .int .u32 e.a] 31) mE) rfl)) (fun d hd => ?_)
 (repeat (refine gG ?_; try intro _))
 refine zbN (φ := blk d.g [.bool d.leaf, d.K.v, d.V.v, d.C.v, .int .u32 d.a] 109) (ψ := blk tg [d.ptr, .int .i64 1] 55) (e := tg) rfl sE mE rfl (fun hb1 => ?_)
 refine zbN (φ := sl d.K.A 3 KE d.Ks) (ψ := blk tg [d.ptr, .int .i64 1] 55) (e := tg) rfl sE mE rfl (fun hb2 => ?_)
 refine zbN (φ := sl d.V.A 1 (IE .u32) d.Vs) (ψ := blk tg [d.ptr, .int .i64 1] 55) (e := tg) rfl sE mE rfl (fun hb3 => ?_)
 refine zbN (φ := sl d.C.A 1 PE d.Cs) (ψ := blk tg [d.ptr, .int .i64 1] 55) (e := tg) rfl sE mE rfl (fun hb4 => ?_)
 refine zaY [blk d.g [.bool d.leaf, d.K.v, d.V.v, d.C.v, .int .u32 d.a] 109, sl d.K.A 3 KE d.Ks, sl d.V.A 1 (IE .u32) d.Vs, sl d.C.A 1 PE d.Cs] (zer d) sS ?_
 have hD : Der [nodeF d] (stF (some ⟨0, ((d, [e]) : NodeD × List EntD)⟩)) := zhy ⟨0, ((d, [e]) : NodeD × List EntD)⟩
 refine zaY [nodeF d] hD sS ?_
 have hnew : New w [stF none] (stF (some ⟨0, ((d, [e]) : NodeD × List EntD)⟩)) := hD.new fun ψ hψ => by
  obtain rfl := m1 hψ
  refine (zer d).new fun χ hχ b hb => .inl ?_
  rcases List.mem_cons.1 hχ with rfl | hχ
  ·exact hb1 b hb
  rcases List.mem_cons.1 hχ with rfl | hχ
  ·exact hb2 b hb
  rcases List.mem_cons.1 hχ with rfl | hχ
  ·exact hb3 b hb
  obtain rfl := m1 hχ
  exact hb4 b hb
 refine zad hT rfl rfl (.tmp rfl (.tmp rfl .nil)) (fun w' hk => ?_)
 refine RetX.mk ⟨some ⟨0, ((d, [e]) : NodeD × List EntD)⟩, [e], 0, false⟩ ⟨⟨0, zkX e.k, ?_, (zga e.k).symm, rfl⟩, znP hd, ⟨d, rfl, hd⟩⟩ rfl hk sA (.cons (RS1.rdE hk mE hnew) .nil)
 unfold setAt
 rw [if_neg (by rw [zga]; decide)]
 rfl
theorem st_set (a : Option AT) (L : List EntD) (e : EntD) (tg : Nat) (w : World) (hh : HasO a L) (h9 : L.length ≤ 160) (hB : w.heap[tg]? = some (.cells [rootV a, .int .i64 (L.length : Int)].toArray 55 (0, 0))) (hF : Rd1 w (stF a)) (hdis : ¬ (stF a).S tg) :
 Calls Tryz.prog 33 [.pointer (some ⟨tg, 0, none⟩), e.val].toArray w (RetX tg 55 (StSet a L e) (fun s => .tuple #[.int .u32 s.was, .bool s.had]) (fun s => [rootV s.a, .int .i64 (s.M.length : Int)]) (fun s => [stF s.a]) [stF a] w) := by
 cases a with
 | none =>
   obtain rfl : L = [] := hh
   exact set_nil e tg w hB
 | some a =>
   refine (zpd a.t e L tg w hh h9 hB (zpa hF) (fun h => hdis (st_S h))).mono fun en w' hr => ?_
   refine zgZ hr (fun s hs => ?_) (fun ψ hψ b hb => ⟨_, .head _, by obtain rfl := m1 hψ; exact st_S hb⟩)
   obtain ⟨p, h1, h2, h3, h4⟩ := hs.p
   refine ⟨⟨some s.a, setAt L e p, s.was, s.had⟩, ⟨⟨p, h1, rfl, h3, h4⟩, h2, ⟨_, rfl, hs.set⟩⟩, rfl, ?_, zhy s.a⟩
   show [_, Value.int .i64 _] = [_, Value.int .i64 _]
   rw [zhI h1, h3]
   rfl
theorem zkk (k : KeyD) (tg : Nat) (w : World) (hB : w.heap[tg]? = some (.cells [.pointer none, .int .i64 0].toArray 55 (0, 0))) :
 Calls Tryz.prog 37 [.pointer (some ⟨tg, 0, none⟩), k.val].toArray w (RetX tg 55 (StDel none [] k) (fun s => .tuple #[.int .u32 s.was, .bool s.had]) (fun s => [rootV s.a, .int .i64 (s.M.length : Int)]) (fun s => [stF s.a]) [stF none] w) := by
 refine zab T [tg] [blk tg [.pointer none, .int .i64 0] 55] [] Tryz.func37 rfl Tryz.ntmps37 rfl (Kn.startW hB) ?_
 (repeat (refine gG ?_; try intro _))
 rename_i g3
 refine cR (fun w hk => zkr k tg 0 w (hk.rO mE)) (fun sg _ => ?_)
 (repeat (refine gG ?_; try intro _))
 refine zaY [] (φ := stF none) (Der.all fun x hx => by cases hx) (List.nil_subset _) ?_
 refine zad hT rfl rfl (.tmp rfl (.tmp rfl .nil)) (fun w' hk => ?_)
 refine RetX.mk ⟨none, [], 0, false⟩ ⟨⟨0, zkX k, ?_, (zga k).symm, rfl⟩, rfl, rfl⟩ rfl hk sA (.cons (RS1.rdE hk mE (New.all fun x hx => by cases hx)) .nil)
 unfold delAt
 rw [if_neg (by rw [zga]; decide)]
theorem zkA (a : Option AT) (L : List EntD) (k : KeyD) (tg : Nat) (w : World) (hh : HasO a L) (h9 : L.length ≤ 160) (hB : w.heap[tg]? = some (.cells [rootV a, .int .i64 (L.length : Int)].toArray 55 (0, 0))) (hF : Rd1 w (stF a)) (hdis : ¬ (stF a).S tg) :
 Calls Tryz.prog 37 [.pointer (some ⟨tg, 0, none⟩), k.val].toArray w (RetX tg 55 (StDel a L k) (fun s => .tuple #[.int .u32 s.was, .bool s.had]) (fun s => [rootV s.a, .int .i64 (s.M.length : Int)]) (fun s => [stF s.a]) [stF a] w) := by
 cases a with
 | none =>
   obtain rfl : L = [] := hh
   exact zkk k tg w hB
 | some a =>
   refine (zd5 a.t k L tg w hh h9 hB (zpa hF) (fun h => hdis (st_S h))).mono fun en w' hr => ?_
   refine zgZ hr (fun s hs => ?_) (fun ψ hψ b hb => ⟨_, .head _, by obtain rfl := m1 hψ; exact st_S hb⟩)
   obtain ⟨p, h1, h2, h3, h4⟩ := hs.p
   refine ⟨⟨s.a, delAt L k p, s.was, s.had⟩, ⟨⟨p, h1, rfl, h3, h4⟩, h2, hs.no, hs.yes⟩, rfl, ?_, Der.mem (.head _)⟩
   show [_, Value.int .i64 _] = [_, Value.int .i64 _]
   rw [zik h1, h3]
end Go.Proofs.YtaghmffgoomebaaGreat.Tw
namespace Go.Proofs.YtaghmffgoomebaaGreat.Tw
open Go.RowKit Mem Nd Gx
open Go.ChangeShapes Go.WideShapes Go.Deep
set_option maxRecDepth 100000
set_option maxHeartbeats 4000000
structure OpD where
 del : Bool
 e : EntD
instance : Inhabited OpD := ⟨⟨false, default⟩⟩
def CE : OpD → Nat → Value
 | x, 0 => .bool x.del
 | x, 1 => .int .u16 x.e.k.v
 | x, 2 => .int .u32 x.e.k.b
 | x, 3 => .int .u64 x.e.k.s
 | x, _ + 4 => .int .u32 x.e.a
abbrev OpD.val (x : OpD) : Value := .agg #[.bool x.del, .int .u16 x.e.k.v, .int .u32 x.e.k.b, .int .u64 x.e.k.s, .int .u32 x.e.a]
end Go.Proofs.YtaghmffgoomebaaGreat.Tw
namespace Go.Proofs.YtaghmffgoomebaaGreat.Tw
open Go.RowKit Mem Nd Gx
open Tr hiding T row
set_option maxRecDepth 100000
set_option maxHeartbeats 4000000
theorem oV_eq (x : Option EntD) : oV x = (x.getD default).val := by cases x <;> rfl
theorem HasO.asc : ∀ {a : Option AT} {L : List EntD}, HasO a L → AscK (keysOf L)
 | none, L, h => by
   obtain rfl : L = [] := h
   exact fun i j _ h2 => absurd h2 (by simp)
 | some a, L, h => Has.asc h
theorem zei {w : World} {RA RB : List Fact} {φ : Fact} (h : New w RA φ) (hs : RA ⊆ RB) : New w RB φ := fun b hb => (h b hb).imp id fun ⟨ψ, h1, h2⟩ => ⟨ψ, hs h1, h2⟩
theorem zlX {M : List EntD} {k : KeyD} {p : Nat} {had : Bool} {was : Int} (h1 : had = tB ((keysOf M)[p]? = some k)) (h2 : was = (if had = true then (M.getD p default).a else 0)) : was = ((getV M k p).getD default).a ∧ had = (getV M k p).isSome := by
 unfold getV
 by_cases hf : tB ((keysOf M)[p]? = some k) = true
 ·have hlt := (List.getElem?_eq_some_iff.1 (zaQ.1 hf)).1
  rw [List.length_map] at hlt
  rw [if_pos hf, h2, h1, if_pos hf]
  rw [List.getElem?_eq_getElem hlt, List.getD_eq_getElem?_getD, List.getElem?_eq_getElem hlt]
  exact ⟨rfl, hf⟩
 ·rw [if_neg hf, h2, h1, if_neg hf]
  exact ⟨rfl, by cases hb : tB ((keysOf M)[p]? = some k) with | false => rfl | true => exact absurd hb hf⟩
structure StepO where
 a : Option AT
 M : List EntD
 s : SlV
structure StepI (a : Option AT) (M : List EntD) (o : OpD) (r : StepO) : Prop where
 has : HasO r.a r.M
 ok : r.s.Ok r.M.length
 p : ∃ p, PosK (keysOf M) o.e.k p ∧ r.M = (if o.del = true then delAt M o.e.k p else setAt M o.e p) ∧
  ((o.del = true → DelX a o.e.k (tB ((keysOf M)[p]? = some o.e.k)) r.a) ∧ (o.del = false → SetX a o.e r.a))
theorem zm7 (a : Option AT) (M : List EntD) (s : SlV) (o : OpD) (tg : Nat) (w : World) (hh : HasO a M) (h9 : M.length ≤ 160) (hs : s.Ok M.length) (hB : w.heap[tg]? = some (.cells [rootV a, .int .i64 (M.length : Int)].toArray 55 (0, 0))) (hF : Rd1 w (stF a)) (hM : Rd1 w (sl s.A 4 EE M)) (hd1 : ¬ (stF a).S tg) (hd2 : ¬ (sl s.A 4 EE M).S tg) :
 Calls Tryz.prog 16 [.pointer (some ⟨tg, 0, none⟩), .slice s.A s.n s.c, o.val].toArray w (RetX tg 55 (StepI a M o) (fun r => .tuple #[r.s.v, .bool true]) (fun r => [rootV r.a, .int .i64 (r.M.length : Int)]) (fun r => [stF r.a, sl r.s.A 4 EE r.M]) [stF a, sl s.A 4 EE M] w) := by
 obtain ⟨xA, xn, xc⟩ := s
 obtain ⟨del, e⟩ := o
 have hsn : xn = M.length := hs.n
 have ha := hh.asc
 have hk0 : Kn [tg] w w [blk tg [rootV a, .int .i64 (M.length : Int)] 55] [stF a, sl xA 4 EE M] := ((Kn.startW hB).addR _ hM.1 hM.2 (fun φ hφ b hb hb' => by
  obtain rfl := m1 hφ
  have : b = tg := hb
  subst this
  exact hd2 hb')).addR _ hF.1 hF.2 (fun φ hφ b hb hb' => by
  obtain rfl := m1 hφ
  have : b = tg := hb
  subst this
  exact hd1 hb')
 refine zab T [tg] [blk tg [rootV a, .int .i64 (M.length : Int)] 55] [stF a, sl xA 4 EE M] Tryz.func16 rfl Tryz.ntmps16 rfl hk0 ?_
 (repeat (refine gG ?_; try intro _))
 rename_i g5
 refine cR (fun w hk => ziL xA xn xc M e.k w hsn (by omega) ha (hk.rR mE)) (fun p hp => ?_)
 rw [oV_eq]
 (repeat (refine gG ?_; try intro _))
 rename_i g8
 obtain ⟨z, hz⟩ : ∃ z, z = (getV M e.k p).getD default := ⟨_, rfl⟩
 obtain ⟨zb, hzb⟩ : ∃ zb, zb = (getV M e.k p).isSome := ⟨_, rfl⟩
 rw [← hz, ← hzb]
 cases del with
 | true =>
   (repeat (refine gG ?_; try intro _))
   refine g_mv rfl ?_; refine zdW (fun w hk => zkA a M e.k tg w hh (by omega) (hk.pO (blk tg [rootV a, .int .i64 (M.length : Int)] 55) mE) (hk.rR mE) (fun h => hk.disR (blk tg [rootV a, .int .i64 (M.length : Int)] 55) mE (stF a) mE tg rfl h)) rfl rfl rfl rfl rfl kR uD sS (fun _ => rfl) (fun r hr hnr => ?_)
   obtain ⟨p', hp', hrM, hrh, hrw⟩ := hr.p
   obtain rfl := za2 hp hp'
   obtain ⟨e1, e2⟩ := zlX hrh hrw
   rw [← hz] at e1
   rw [← hzb] at e2
   (repeat (refine gG ?_; try intro _))
   refine zas [0, 1] (Cut _ (fun q : { q : RowV // (q.s.Ok q.M.length ∧ ∃ p, PosK (keysOf M) e.k p ∧ q.M = delAt M e.k p) ∧ New w [sl xA 4 EE M] (sl q.s.A 4 EE q.M) } => [(6, q.1.s.v), (7, .bool true)]) (fun _ => [blk tg [rootV r.a, .int .i64 (r.M.length : Int)] 55]) (fun q => [sl q.1.s.A 4 EE q.1.M, stF r.a])) rfl rfl kR ?_ (zaD fun q => ?_)
   ·skip
    refine gY hT 0 ?_
    refine gY hT 1 ?_
    refine gY hT 2 ?_
    refine gW hT 3 ?_
    refine gY hT 5 ?_
    refine gY hT 6 ?_
    refine gW hT 7 ?_
    refine gY hT 8 ?_
    try (refine zam 40 (.bool true) rfl (congrArg Value.bool (zan e1)) ?_)
    refine gP 4 ?_
    refine za4 (fun w hk => zd8 xA xn xc M e.k w hs (by omega) ha (hk.rR mE)) rfl rfl rfl rfl rfl kR sS (fun _ => rfl) (fun q hq hnq => ?_)
    refine ⟨sF, ?_⟩
    refine gY hT 9 ?_
    first | refine gY hT 10 ?_ | refine gZ 10 ?_
    first | refine gY hT 11 ?_ | refine gZ 11 ?_
    first | refine gY hT 12 ?_ | refine gZ 12 ?_
    try (refine zam 44 (.bool true) rfl (congrArg Value.bool (zan e2)) ?_)
    refine gY hT 13 ?_
    refine gY hT 14 ?_
    refine gY hT 15 ?_
    refine zak dK ?_
    exact ⟨⟨q, hq, hnq _ (.head _)⟩, fS, sA, sS⟩
   ·obtain ⟨q, ⟨hq1, p2, hq2, hq3⟩, hq4⟩ := q
    obtain rfl := za2 hq2 hp
    (repeat (refine gG ?_; try intro _))
    refine zad hT rfl rfl (.tmp rfl (.tmp rfl .nil)) (fun w' hk => ?_)
    refine RetX.mk ⟨r.a, q.M, q.s⟩ ⟨by show HasO r.a q.M; rw [hq3, ← hrM]; exact hr.has, hq1, p2, hp, by rw [if_pos rfl]; exact hq3, fun _ => by rw [← hrh]; exact hr.x, fun h => by cases h⟩ rfl hk (by
     show SelAll [blk tg [rootV r.a, .int .i64 (q.M.length : Int)] 55] _
     rw [hq3, ← hrM]; exact sA) (.cons (RS1.rdE hk mE (zei (hnr _ (.head _)) sS)) (.cons (RS1.rdE hk mE (zei hq4 sS)) .nil))
 | false =>
   (repeat (refine gG ?_; try intro _))
   refine g_mv rfl ?_; refine zdW (fun w hk => st_set a M e tg w hh (by omega) (hk.pO (blk tg [rootV a, .int .i64 (M.length : Int)] 55) mE) (hk.rR mE) (fun h => hk.disR (blk tg [rootV a, .int .i64 (M.length : Int)] 55) mE (stF a) mE tg rfl h)) rfl rfl rfl rfl rfl kR uD sS (fun _ => rfl) (fun r hr hnr => ?_)
   obtain ⟨p', hp', hrM, hrh, hrw⟩ := hr.p
   obtain rfl := za2 hp hp'
   obtain ⟨e1, e2⟩ := zlX hrh hrw
   rw [← hz] at e1
   rw [← hzb] at e2
   (repeat (refine gG ?_; try intro _))
   refine zas [0, 1] (Cut _ (fun q : { q : RowV // (q.s.Ok q.M.length ∧ ∃ p, PosK (keysOf M) e.k p ∧ q.M = setAt M e p) ∧ New w [sl xA 4 EE M] (sl q.s.A 4 EE q.M) } => [(6, q.1.s.v), (7, .bool true)]) (fun _ => [blk tg [rootV r.a, .int .i64 (r.M.length : Int)] 55]) (fun q => [sl q.1.s.A 4 EE q.1.M, stF r.a])) rfl rfl kR ?_ (zaD fun q => ?_)
   ·skip
    refine gY hT 0 ?_
    refine gY hT 1 ?_
    refine gW hT 2 ?_
    refine gY hT 4 ?_
    refine gY hT 5 ?_
    refine gW hT 6 ?_
    refine gY hT 7 ?_
    try (refine zam 60 (.bool true) rfl (congrArg Value.bool (zan e1)) ?_)
    refine gP 3 ?_
    refine za4 (fun w hk => znj xA xn xc M e w hs (by omega) ha (hk.rR mE)) rfl rfl rfl rfl rfl kR sS (fun _ => rfl) (fun q hq hnq => ?_)
    refine ⟨sF, ?_⟩
    refine gY hT 8 ?_
    first | refine gY hT 9 ?_ | refine gZ 9 ?_
    first | refine gY hT 10 ?_ | refine gZ 10 ?_
    first | refine gY hT 11 ?_ | refine gZ 11 ?_
    try (refine zam 64 (.bool true) rfl (congrArg Value.bool (zan e2)) ?_)
    refine gY hT 12 ?_
    refine gY hT 13 ?_
    refine gY hT 14 ?_
    refine zak dK ?_
    exact ⟨⟨q, hq, hnq _ (.head _)⟩, fS, sA, sS⟩
   ·obtain ⟨q, ⟨hq1, p2, hq2, hq3⟩, hq4⟩ := q
    obtain rfl := za2 hq2 hp
    (repeat (refine gG ?_; try intro _))
    refine zad hT rfl rfl (.tmp rfl (.tmp rfl .nil)) (fun w' hk => ?_)
    refine RetX.mk ⟨r.a, q.M, q.s⟩ ⟨by show HasO r.a q.M; rw [hq3, ← hrM]; exact hr.has, hq1, p2, hp, by rw [if_neg (fun h => by cases h)]; exact hq3, fun h => (by cases h), fun _ => hr.x⟩ rfl hk (by
     show SelAll [blk tg [rootV r.a, .int .i64 (q.M.length : Int)] 55] _
     rw [hq3, ← hrM]; exact sA) (.cons (RS1.rdE hk mE (zei (hnr _ (.head _)) sS)) (.cons (RS1.rdE hk mE (zei hq4 sS)) .nil))
end Go.Proofs.YtaghmffgoomebaaGreat.Tw
namespace Go.Proofs.YtaghmffgoomebaaGreat.Tw
open Go.RowKit Mem Nd Gx Sk
open Tr hiding T row
set_option maxRecDepth 100000
set_option maxHeartbeats 4000000
inductive BfsR (a : AT) : List AT → Nat → Prop
 | start : BfsR a [a] 0
 | step {Q : List AT} {i : Nat} {b : AT} (h : BfsR a Q i) (hb : Q[i]? = some b) : BfsR a (Q ++ b.kids) (i + 1)
theorem BfsR.count {a : AT} {Q : List AT} {i : Nat} (h : BfsR a Q i) : Q.length + left Q i = a.cnt := by
 induction h with
 | start =>
   have : 1 ≤ a.cnt := zmx a.h a.t
   show 1 + left [a] 0 = _
   unfold left
   simp
   omega
 | step h hb ih => rw [left_step hb]; exact ih
theorem BfsR.der {a : AT} {Q : List AT} {i : Nat} (h : BfsR a Q i) : ∀ q ∈ Q, Der [stF (some a)] (treeF q.h q.t) := by
 induction h with
 | start =>
   intro q hq
   obtain rfl := m1 hq
   exact Der.elem (L := [q]) (F := fun a : AT => treeF a.h a.t) (Der.mem (.head _)) (.head _)
 | @step Q i b h hb ih =>
   intro q hq
   rcases List.mem_append.1 hq with hq | hq
   ·exact ih q hq
   ·skip
    obtain ⟨hh, tt⟩ := b
    cases hh with
    | zero => cases hq
    | succ hh =>
      obtain ⟨k, hk, rfl⟩ := List.mem_map.1 (show q ∈ (Tr.kids tt).map (fun k => (⟨hh, k⟩ : AT)) from hq)
      refine (zcB (t := tt) hk).trans fun ψ hψ => ?_
      obtain rfl := m1 hψ
      exact ih _ (List.mem_of_getElem? hb)
theorem BfsR.ok {a : AT} {Q : List AT} {i : Nat} (h : BfsR a Q i) (ok : a.Ok) : ∀ q ∈ Q, q.Ok := by
 induction h with
 | start => intro q hq; obtain rfl := m1 hq; exact ok
 | step h hb ih =>
   intro q hq
   rcases List.mem_append.1 hq with hq | hq
   ·exact ih q hq
   ·exact AT.zlz (ih _ (List.mem_of_getElem? hb)) q hq
theorem BfsR.pos {a : AT} {Q : List AT} {i : Nat} (h : BfsR a Q i) : 0 < Q.length := by
 induction h with
 | start => exact Nat.one_pos
 | step h hb ih => rw [List.length_append]; omega
end Go.Proofs.YtaghmffgoomebaaGreat.Tw
namespace Go.Proofs.YtaghmffgoomebaaGreat.Tr
open Nd Gx Tw
def gs : (h : Nat) → T h → List Nat
 | 0, t => [(nd 0 t).g]
 | h + 1, t => (nd (h + 1) t).g :: (t.2.map (gs h)).flatten
def AT.gs (a : AT) : List Nat := Tr.gs a.h a.t
end Go.Proofs.YtaghmffgoomebaaGreat.Tr
