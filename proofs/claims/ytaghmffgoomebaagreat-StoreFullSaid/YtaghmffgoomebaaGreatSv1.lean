/- tree.Len, Root, New. A tree's state, call by call: Set and Delete of any tree, one with a root or none. walk.Nodes: level by level. Trees as data: which nodes a change leaves (plain; no program). A tree's nodes: their headers, and what they hold; they lie apart (plain; no program). -/
import Derived.Test.YtaghmffgoomebaaGreatTrA
import Derived.Test.YtaghmffgoomebaaGreatTw
import Derived.Test.YtaghmffgoomebaaGreatTd
namespace Go.Proofs.YtaghmffgoomebaaGreat.Tw
open Go.RowKit Mem Nd Gx Sk
open Tr hiding T row
set_option linter.unusedVariables false
set_option linter.unusedSimpArgs false
set_option maxRecDepth 100000
set_option maxHeartbeats 4000000
/-- An entry, or none, as it is handed back. -/
def oV : Option EntD → Value
  | none => .agg #[.int .u16 0, .int .u32 0, .int .u64 0, .int .u32 0]
  | some y => y.val
/-! Len, Root, New, Copy, Depth -/
theorem tlen_any (tg : Nat) (v : Value) (n : Int) (w : World) (hB : Rd1 w (blk tg [v, .int .i64 n] 55)) :
    Calls Tryz.prog 13 [.pointer (some ⟨tg, 0, none⟩)].toArray w fun e w' => e = .returned (.int .i64 n) ∧ Below w.heap.size w w' := by
  refine g_enter0 T [] [] [row tg 0 [v, .int .i64 n]] Tryz.func13 rfl Tryz.ntmps13 rfl (Rds.cons hB.row .nil).kn ?_
  (repeat (refine gG ?_; try intro _))
  refine gk_ret hT rfl rfl (.tmp rfl .nil) (fun w' hk => ?_)
  exact ⟨rfl, hk.toBelow⟩
end Go.Proofs.YtaghmffgoomebaaGreat.Tw
namespace Go.Proofs.YtaghmffgoomebaaGreat.Tw
open Go.RowKit Mem Nd Gx Sk
open Tr hiding T row
set_option linter.unusedVariables false
set_option linter.unusedSimpArgs false
set_option maxRecDepth 100000
set_option maxHeartbeats 4000000
structure StO where
  a : Option AT
  M : List EntD
  was : Int
  had : Bool
/-- How the tree has changed. -/
def SetX : Option AT → EntD → Option AT → Prop
  | none, e, b => ∃ d, b = some ⟨0, ((d, [e]) : NodeD × List EntD)⟩ ∧ IsLeaf [e] d
  | some a, e, b => ∃ c, b = some c ∧ SetS a.t e c
def DelX : Option AT → KeyD → Bool → Option AT → Prop
  | none, _, _, b => b = none
  | some a, k, had, b => (had = false → b = some a) ∧ (had = true → DelS a.t k b)
structure StSet (a : Option AT) (L : List EntD) (e : EntD) (s : StO) : Prop where
  p : ∃ p, PosK (keysOf L) e.k p ∧ s.M = setAt L e p ∧ s.had = tB ((keysOf L)[p]? = some e.k) ∧ s.was = (if s.had = true then (L.getD p default).a else 0)
  has : HasO s.a s.M
  x : SetX a e s.a
structure StDel (a : Option AT) (L : List EntD) (k : KeyD) (s : StO) : Prop where
  p : ∃ p, PosK (keysOf L) k p ∧ s.M = delAt L k p ∧ s.had = tB ((keysOf L)[p]? = some k) ∧ s.was = (if s.had = true then (L.getD p default).a else 0)
  has : HasO s.a s.M
  x : DelX a k s.had s.a
theorem retX_mono {σ τ : Type} {g T : Nat} {I : σ → Prop} {V : σ → Value} {CS : σ → List Value} {FF : σ → List Fact} {RA : List Fact} {J : τ → Prop} {V' : τ → Value} {CS' : τ → List Value} {F' : τ → Fact} {RB : List Fact} {w : World} {e : Ending} {w' : World}
    (h : RetX g T I V CS FF RA w e w') (f : ∀ s, I s → ∃ s', J s' ∧ V s = V' s' ∧ CS s = CS' s' ∧ Der (FF s) (F' s')) (hRA : ∀ ψ, ψ ∈ RA → ∀ b, ψ.S b → ∃ χ, χ ∈ RB ∧ χ.S b) : RetX g T J V' CS' (fun s => [F' s]) RB w e w' := by
  obtain ⟨s, hI, he, hf, hr⟩ := h
  obtain ⟨s', h1, h2, h3, h4⟩ := f s hI
  refine ⟨s', h1, by rw [he, h2], by rw [← h3]; exact hf, .cons ⟨h4.p w' fun ψ hψ => (hr.mem hψ).1, fun b hb => ?_⟩ .nil⟩
  obtain ⟨ψ, h5, h6⟩ := h4.S b hb
  obtain ⟨h7, h8⟩ := (hr.mem h5).2 b h6
  exact ⟨h7, h8.imp id fun ⟨χ, h9, h10⟩ => hRA χ h9 b h10⟩
theorem der_st (a : AT) : Der [treeF a.h a.t] (stF (some a)) := Der.all fun x hx => by
  obtain rfl := List.mem_singleton.1 hx
  exact Der.mem (.head _)
theorem st_S {a : AT} {b : Nat} (h : (treeF a.h a.t).S b) : (stF (some a)).S b := ⟨a, .head _, h⟩
theorem st_der (a : AT) : Der [stF (some a)] (treeF a.h a.t) := Der.elem (L := [a]) (F := fun a : AT => treeF a.h a.t) (Der.mem (.head _)) (.head _)
theorem st_rd {w : World} {a : AT} (h : Rd1 w (stF (some a))) : Rd1 w (treeF a.h a.t) := (st_der a).rd fun ψ hψ => by obtain rfl := List.mem_singleton.1 hψ; exact h
theorem setAt_found {L : List EntD} {e : EntD} {p : Nat} (hp : PosK (keysOf L) e.k p) : (setAt L e p).length = (if tB ((keysOf L)[p]? = some e.k) = true then L.length else L.length + 1) := by
  have := hp.le
  rw [List.length_map] at this
  unfold setAt
  split
  · rw [List.length_set]
  · simp only [List.length_append, List.length_take, List.length_drop, List.length_cons, List.length_nil]; omega
theorem delAt_found {L : List EntD} {k : KeyD} {p : Nat} (hp : PosK (keysOf L) k p) : (delAt L k p).length = (if tB ((keysOf L)[p]? = some k) = true then L.length - 1 else L.length) := by
  unfold delAt
  split
  · rename_i h
    have := (List.getElem?_eq_some_iff.1 (tB_iff.1 h)).1
    rw [List.length_map] at this
    simp only [List.length_append, List.length_take, List.length_drop]; omega
  · rfl
theorem pos_nil (k : KeyD) : PosK (keysOf []) k 0 := ⟨Nat.le_refl _, fun m h => absurd h (by omega), fun m _ h => absurd h (by simp)⟩
theorem nil_not (k : KeyD) : tB ((keysOf [])[0]? = some k) = false := tB_false (by simp)
theorem set_nil (e : EntD) (tg : Nat) (w : World) (hB : w.heap[tg]? = some (.cells [.pointer none, .int .i64 0].toArray 55 (0, 0))) :
    Calls Tryz.prog 33 [.pointer (some ⟨tg, 0, none⟩), e.val].toArray w (RetX tg 55 (StSet none [] e) (fun s => .tuple #[.int .u32 s.was, .bool s.had]) (fun s => [rootV s.a, .int .i64 (s.M.length : Int)]) (fun s => [stF s.a]) [stF none] w) := by
  refine g_enter0 T [tg] [blk tg [.pointer none, .int .i64 0] 55] [] Tryz.func33 rfl Tryz.ntmps33 rfl (Kn.startW hB) ?_
  (repeat (refine gG ?_; try intro _))
  rename_i g3
  refine g_mv rfl ?_; refine mv_call_rt (fun w hk => way_nil e.k tg 0 w (hk.rO mE)) rfl rfl rfl rfl rfl (by kernel_rfl) (fun _ => rfl) (fun sg _ => ?_)
  (repeat (refine gG ?_; try intro _))
  rename_i g5
  refine g_mv rfl ?_; refine mv_call_rt (fun w hk => leaf_any (some ⟨g5, 0, none⟩) 1 1 [e] w rfl (by simp) (sl_of_blk (hk.pO (blk g5 [.int .u16 e.k.v, .int .u32 e.k.b, .int .u64 e.k.s, .int .u32 e.a] 31) mE) rfl)) rfl rfl rfl rfl rfl (by kernel_rfl) (fun _ => rfl) (fun d hd => ?_)
  (repeat (refine gG ?_; try intro _))
  refine gk_shareE (φ := blk d.g [.bool d.leaf, d.K.v, d.V.v, d.C.v, .int .u32 d.a] 109) (ψ := blk tg [d.ptr, .int .i64 1] 55) (e := tg) rfl (by repeat (first | with_reducible exact Sel.here | with_reducible apply Sel.there)) mE rfl (fun hb1 => ?_)
  refine gk_shareE (φ := sl d.K.A 3 KE d.Ks) (ψ := blk tg [d.ptr, .int .i64 1] 55) (e := tg) rfl (by repeat (first | with_reducible exact Sel.here | with_reducible apply Sel.there)) mE rfl (fun hb2 => ?_)
  refine gk_shareE (φ := sl d.V.A 1 (IE .u32) d.Vs) (ψ := blk tg [d.ptr, .int .i64 1] 55) (e := tg) rfl (by repeat (first | with_reducible exact Sel.here | with_reducible apply Sel.there)) mE rfl (fun hb3 => ?_)
  refine gk_shareE (φ := sl d.C.A 1 PE d.Cs) (ψ := blk tg [d.ptr, .int .i64 1] 55) (e := tg) rfl (by repeat (first | with_reducible exact Sel.here | with_reducible apply Sel.there)) mE rfl (fun hb4 => ?_)
  refine gk_der [blk d.g [.bool d.leaf, d.K.v, d.V.v, d.C.v, .int .u32 d.a] 109, sl d.K.A 3 KE d.Ks, sl d.V.A 1 (IE .u32) d.Vs, sl d.C.A 1 PE d.Cs] (der_node d) sS ?_
  have hD : Der [nodeF d] (stF (some ⟨0, ((d, [e]) : NodeD × List EntD)⟩)) := der_st ⟨0, ((d, [e]) : NodeD × List EntD)⟩
  refine gk_der [nodeF d] hD sS ?_
  have hnew : New w [stF none] (stF (some ⟨0, ((d, [e]) : NodeD × List EntD)⟩)) := hD.new fun ψ hψ => by
    obtain rfl := List.mem_singleton.1 hψ
    refine (der_node d).new fun χ hχ b hb => .inl ?_
    rcases List.mem_cons.1 hχ with rfl | hχ
    · exact hb1 b hb
    rcases List.mem_cons.1 hχ with rfl | hχ
    · exact hb2 b hb
    rcases List.mem_cons.1 hχ with rfl | hχ
    · exact hb3 b hb
    obtain rfl := List.mem_singleton.1 hχ
    exact hb4 b hb
  refine gk_ret hT rfl rfl (.tmp rfl (.tmp rfl .nil)) (fun w' hk => ?_)
  refine RetX.mk ⟨some ⟨0, ((d, [e]) : NodeD × List EntD)⟩, [e], 0, false⟩ ⟨⟨0, pos_nil e.k, ?_, (nil_not e.k).symm, rfl⟩, has_leaf hd, ⟨d, rfl, hd⟩⟩ rfl hk sA (.cons (RS1.rdE hk mE hnew) .nil)
  unfold setAt
  rw [if_neg (by rw [nil_not]; decide)]
  rfl
theorem st_set (a : Option AT) (L : List EntD) (e : EntD) (tg : Nat) (w : World) (hh : HasO a L) (h9 : L.length ≤ 160) (hB : w.heap[tg]? = some (.cells [rootV a, .int .i64 (L.length : Int)].toArray 55 (0, 0))) (hF : Rd1 w (stF a)) (hdis : ¬ (stF a).S tg) :
    Calls Tryz.prog 33 [.pointer (some ⟨tg, 0, none⟩), e.val].toArray w (RetX tg 55 (StSet a L e) (fun s => .tuple #[.int .u32 s.was, .bool s.had]) (fun s => [rootV s.a, .int .i64 (s.M.length : Int)]) (fun s => [stF s.a]) [stF a] w) := by
  cases a with
  | none =>
    obtain rfl : L = [] := hh
    exact set_nil e tg w hB
  | some a =>
    refine (set_any a.t e L tg w hh h9 hB (st_rd hF) (fun h => hdis (st_S h))).mono fun en w' hr => ?_
    refine retX_mono hr (fun s hs => ?_) (fun ψ hψ b hb => ⟨_, .head _, by obtain rfl := List.mem_singleton.1 hψ; exact st_S hb⟩)
    obtain ⟨p, h1, h2, h3, h4⟩ := hs.p
    refine ⟨⟨some s.a, setAt L e p, s.was, s.had⟩, ⟨⟨p, h1, rfl, h3, h4⟩, h2, ⟨_, rfl, hs.set⟩⟩, rfl, ?_, der_st s.a⟩
    show [_, Value.int .i64 _] = [_, Value.int .i64 _]
    rw [setAt_found h1, h3]
    rfl
theorem delete_nil (k : KeyD) (tg : Nat) (w : World) (hB : w.heap[tg]? = some (.cells [.pointer none, .int .i64 0].toArray 55 (0, 0))) :
    Calls Tryz.prog 37 [.pointer (some ⟨tg, 0, none⟩), k.val].toArray w (RetX tg 55 (StDel none [] k) (fun s => .tuple #[.int .u32 s.was, .bool s.had]) (fun s => [rootV s.a, .int .i64 (s.M.length : Int)]) (fun s => [stF s.a]) [stF none] w) := by
  refine g_enter0 T [tg] [blk tg [.pointer none, .int .i64 0] 55] [] Tryz.func37 rfl Tryz.ntmps37 rfl (Kn.startW hB) ?_
  (repeat (refine gG ?_; try intro _))
  rename_i g3
  refine g_mv rfl ?_; refine mv_call_rt (fun w hk => way_nil k tg 0 w (hk.rO mE)) rfl rfl rfl rfl rfl (by kernel_rfl) (fun _ => rfl) (fun sg _ => ?_)
  (repeat (refine gG ?_; try intro _))
  refine gk_der [] (φ := stF none) (Der.all fun x hx => by cases hx) (List.nil_subset _) ?_
  refine gk_ret hT rfl rfl (.tmp rfl (.tmp rfl .nil)) (fun w' hk => ?_)
  refine RetX.mk ⟨none, [], 0, false⟩ ⟨⟨0, pos_nil k, ?_, (nil_not k).symm, rfl⟩, rfl, rfl⟩ rfl hk sA (.cons (RS1.rdE hk mE (New.all fun x hx => by cases hx)) .nil)
  unfold delAt
  rw [if_neg (by rw [nil_not]; decide)]
theorem st_delete (a : Option AT) (L : List EntD) (k : KeyD) (tg : Nat) (w : World) (hh : HasO a L) (h9 : L.length ≤ 160) (hB : w.heap[tg]? = some (.cells [rootV a, .int .i64 (L.length : Int)].toArray 55 (0, 0))) (hF : Rd1 w (stF a)) (hdis : ¬ (stF a).S tg) :
    Calls Tryz.prog 37 [.pointer (some ⟨tg, 0, none⟩), k.val].toArray w (RetX tg 55 (StDel a L k) (fun s => .tuple #[.int .u32 s.was, .bool s.had]) (fun s => [rootV s.a, .int .i64 (s.M.length : Int)]) (fun s => [stF s.a]) [stF a] w) := by
  cases a with
  | none =>
    obtain rfl : L = [] := hh
    exact delete_nil k tg w hB
  | some a =>
    refine (delete_any a.t k L tg w hh h9 hB (st_rd hF) (fun h => hdis (st_S h))).mono fun en w' hr => ?_
    refine retX_mono hr (fun s hs => ?_) (fun ψ hψ b hb => ⟨_, .head _, by obtain rfl := List.mem_singleton.1 hψ; exact st_S hb⟩)
    obtain ⟨p, h1, h2, h3, h4⟩ := hs.p
    refine ⟨⟨s.a, delAt L k p, s.was, s.had⟩, ⟨⟨p, h1, rfl, h3, h4⟩, h2, hs.no, hs.yes⟩, rfl, ?_, Der.mem (.head _)⟩
    show [_, Value.int .i64 _] = [_, Value.int .i64 _]
    rw [delAt_found h1, h3]
end Go.Proofs.YtaghmffgoomebaaGreat.Tw
namespace Go.Proofs.YtaghmffgoomebaaGreat.Tw
open Go.RowKit Mem Nd Gx Sk
open Tr hiding T row
set_option linter.unusedVariables false
set_option linter.unusedSimpArgs false
set_option maxRecDepth 100000
set_option maxHeartbeats 4000000
/-- How far a queue of trees has come. -/
inductive BfsR (a : AT) : List AT → Nat → Prop
  | start : BfsR a [a] 0
  | step {Q : List AT} {i : Nat} {b : AT} (h : BfsR a Q i) (hb : Q[i]? = some b) : BfsR a (Q ++ b.kids) (i + 1)
theorem BfsR.count {a : AT} {Q : List AT} {i : Nat} (h : BfsR a Q i) : Q.length + left Q i = a.cnt := by
  induction h with
  | start =>
    have : 1 ≤ a.cnt := cnt_pos a.h a.t
    show 1 + left [a] 0 = _
    unfold left
    simp
    omega
  | step h hb ih => rw [left_step hb]; exact ih
theorem BfsR.der {a : AT} {Q : List AT} {i : Nat} (h : BfsR a Q i) : ∀ q ∈ Q, Der [stF (some a)] (treeF q.h q.t) := by
  induction h with
  | start =>
    intro q hq
    obtain rfl := List.mem_singleton.1 hq
    exact Der.elem (L := [q]) (F := fun a : AT => treeF a.h a.t) (Der.mem (.head _)) (.head _)
  | @step Q i b h hb ih =>
    intro q hq
    rcases List.mem_append.1 hq with hq | hq
    · exact ih q hq
    · skip
      obtain ⟨hh, tt⟩ := b
      cases hh with
      | zero => cases hq
      | succ hh =>
        obtain ⟨k, hk, rfl⟩ := List.mem_map.1 (show q ∈ (Tr.kids tt).map (fun k => (⟨hh, k⟩ : AT)) from hq)
        refine (der_kid (t := tt) hk).trans fun ψ hψ => ?_
        obtain rfl := List.mem_singleton.1 hψ
        exact ih _ (List.mem_of_getElem? hb)
theorem BfsR.ok {a : AT} {Q : List AT} {i : Nat} (h : BfsR a Q i) (ok : a.Ok) : ∀ q ∈ Q, q.Ok := by
  induction h with
  | start => intro q hq; obtain rfl := List.mem_singleton.1 hq; exact ok
  | step h hb ih =>
    intro q hq
    rcases List.mem_append.1 hq with hq | hq
    · exact ih q hq
    · exact AT.kids_ok (ih _ (List.mem_of_getElem? hb)) q hq
theorem BfsR.pos {a : AT} {Q : List AT} {i : Nat} (h : BfsR a Q i) : 0 < Q.length := by
  induction h with
  | start => exact Nat.one_pos
  | step h hb ih => rw [List.length_append]; omega
end Go.Proofs.YtaghmffgoomebaaGreat.Tw
namespace Go.Proofs.YtaghmffgoomebaaGreat.Tr
open Nd Gx Tw
set_option linter.unusedVariables false
set_option linter.unusedSimpArgs false
/-- All nodes of a tree. -/
def gs : (h : Nat) → T h → List Nat
  | 0, t => [(nd 0 t).g]
  | h + 1, t => (nd (h + 1) t).g :: (t.2.map (gs h)).flatten
def AT.gs (a : AT) : List Nat := Tr.gs a.h a.t
end Go.Proofs.YtaghmffgoomebaaGreat.Tr
namespace Go.Proofs.YtaghmffgoomebaaGreat.Tr
open Go.RowKit Mem Nd Gx Tw
set_option linter.unusedVariables false
set_option linter.unusedSimpArgs false
/-- All nodes of a tree. -/
def nds : (h : Nat) → T h → List NodeD
  | 0, t => [nd 0 t]
  | h + 1, t => nd (h + 1) t :: (t.2.map (nds h)).flatten
theorem gs_nds : ∀ (h : Nat) (t : T h), gs h t = (nds h t).map NodeD.g
  | 0, t => rfl
  | h + 1, t => by
    show (nd (h + 1) t).g :: (t.2.map (gs h)).flatten = (nd (h + 1) t).g :: ((t.2.map (nds h)).flatten).map NodeD.g
    rw [List.map_flatten, List.map_map]
    congr 2
    exact List.map_congr_left fun k _ => gs_nds h k
theorem nds_self : ∀ (h : Nat) (t : T h), nd h t ∈ nds h t
  | 0, _ => .head _
  | _ + 1, _ => .head _
theorem nds_kid {h : Nat} {t : T (h + 1)} {k : T h} (hk : k ∈ t.2) {d : NodeD} (hd : d ∈ nds h k) : d ∈ nds (h + 1) t := List.mem_cons_of_mem _ (List.mem_flatten.2 ⟨_, List.mem_map.2 ⟨k, hk, rfl⟩, hd⟩)
theorem nds_cases {h : Nat} {t : T (h + 1)} {d : NodeD} (hd : d ∈ nds (h + 1) t) : d = nd (h + 1) t ∨ ∃ k, k ∈ t.2 ∧ d ∈ nds h k := by
  rcases List.mem_cons.1 hd with e | hd
  · exact .inl e
  · obtain ⟨l, hl, hd⟩ := List.mem_flatten.1 hd
    obtain ⟨k, hk, rfl⟩ := List.mem_map.1 hl
    exact .inr ⟨k, hk, hd⟩
/-- A node's header; what it holds. -/
abbrev hdB (d : NodeD) : Fact := blk d.g [.bool d.leaf, d.K.v, d.V.v, d.C.v, .int .u32 d.a] 109
def slL (d : NodeD) : List Fact := [sl d.K.A 3 KE d.Ks, sl d.V.A 1 (IE .u32) d.Vs, sl d.C.A 1 PE d.Cs]
def slD (d : NodeD) : Fact := allF (slL d) id
def hdF (h : Nat) (t : T h) : Fact := allF (nds h t) hdB
def slF (h : Nat) (t : T h) : Fact := allF (nds h t) slD
theorem der_hdsl (d : NodeD) : Der [hdB d, slD d] (nodeF d) := Der.all fun φ hφ => by
  have e : d.fs = hdB d :: slL d := rfl
  rw [e] at hφ
  rcases List.mem_cons.1 hφ with rfl | hφ
  · exact Der.mem (.head _)
  · exact Der.elem (L := slL d) (F := id) (Der.mem (.tail _ (.head _))) hφ
theorem der_ndhd (d : NodeD) : Der [nodeF d] (hdB d) := Der.elem (L := d.fs) (F := id) (x := hdB d) (Der.mem (.head _)) (.head _)
theorem der_ndsl (d : NodeD) : Der [nodeF d] (slD d) := Der.all fun φ hφ => Der.elem (L := d.fs) (F := id) (Der.mem (.head _)) (show φ ∈ hdB d :: slL d from .tail _ hφ)
theorem der_tn : ∀ (h : Nat) (t : T h) {d : NodeD}, d ∈ nds h t → Der [treeF h t] (nodeF d)
  | 0, t, d, hd => by
    obtain rfl := List.mem_singleton.1 hd
    exact der_nd t
  | h + 1, t, d, hd => by
    rcases nds_cases hd with rfl | ⟨k, hk, hd⟩
    · exact der_nd t
    · exact (der_tn h k hd).trans fun ψ hψ => by
        obtain rfl := List.mem_singleton.1 hψ
        exact der_kid hk
theorem der_hd (h : Nat) (t : T h) : Der [treeF h t] (hdF h t) := Der.all fun d hd => (der_ndhd d).trans fun ψ hψ => by
  obtain rfl := List.mem_singleton.1 hψ
  exact der_tn h t hd
theorem der_sl (h : Nat) (t : T h) : Der [treeF h t] (slF h t) := Der.all fun d hd => (der_ndsl d).trans fun ψ hψ => by
  obtain rfl := List.mem_singleton.1 hψ
  exact der_tn h t hd
theorem der_hs1 {h : Nat} {t : T h} {d : NodeD} (hd : d ∈ nds h t) : Der [hdF h t, slF h t] (nodeF d) := (der_hdsl d).trans fun ψ hψ => by
  rcases List.mem_cons.1 hψ with rfl | hψ
  · exact Der.elem (L := nds h t) (F := hdB) (Der.mem (.head _)) hd
  · obtain rfl := List.mem_singleton.1 hψ
    exact Der.elem (L := nds h t) (F := slD) (Der.mem (.tail _ (.head _))) hd
theorem der_hs : ∀ (h : Nat) (t : T h), Der [hdF h t, slF h t] (treeF h t)
  | 0, t => der_hs1 (nds_self 0 t)
  | h + 1, (d, ks) => der_mk (der_hs1 (nds_self (h + 1) (d, ks))) (Der.all fun k hk => (der_hs h k).trans fun ψ hψ => by
      rcases List.mem_cons.1 hψ with rfl | hψ
      · exact Der.all fun d' hd' => Der.elem (L := nds (h + 1) ((d, ks) : NodeD × List (T h))) (F := hdB) (Der.mem (.head _)) (nds_kid (t := ((d, ks) : NodeD × List (T h))) hk hd')
      · obtain rfl := List.mem_singleton.1 hψ
        exact Der.all fun d' hd' => Der.elem (L := nds (h + 1) ((d, ks) : NodeD × List (T h))) (F := slD) (Der.mem (.tail _ (.head _))) (nds_kid (t := ((d, ks) : NodeD × List (T h))) hk hd'))
/-! What a place holds. -/
theorem hd_cell {w : World} {d : NodeD} (h : (hdB d).p w) (i : Nat) : w.cell? ⟨d.g, i, none⟩ = [Value.bool d.leaf, d.K.v, d.V.v, d.C.v, .int .u32 d.a][i]? := by
  have h1 : w.heap[d.g]? = some (.cells [Value.bool d.leaf, d.K.v, d.V.v, d.C.v, .int .u32 d.a].toArray 109 (0, 0)) := h
  rw [cell_of_row w d.g i _ _ (0, 0) h1]
  simp
theorem sl_inj {α : Type} [Inhabited α] {w : World} {A : Option Addr} {sz : Nat} {enc : α → Nat → Value} {L M : List α} (h1 : Sl w A sz enc L) (h2 : Sl w A sz enc M) (hl : L.length = M.length) (he : ∀ x y : α, (∀ j, j < sz → enc x j = enc y j) → x = y) : L = M := by
  refine List.ext_getElem hl fun i i1 i2 => ?_
  obtain ⟨b, off, e1, c1⟩ := h1 (by omega)
  obtain ⟨b', off', e2, c2⟩ := h2 (by omega)
  rw [e1] at e2
  injection e2 with e2
  injection e2 with eb eo
  subst eb eo
  refine he _ _ fun j hj => ?_
  have k1 := c1 i i1 j hj
  have k2 := c2 i i2 j hj
  rw [k1] at k2
  rw [LF_at (List.getElem?_eq_getElem i1), LF_at (List.getElem?_eq_getElem i2)] at k2
  exact Option.some.inj k2
theorem ke_inj (x y : KeyD) (h : ∀ j, j < 3 → KE x j = KE y j) : x = y := by
  obtain ⟨a, b, c⟩ := x
  obtain ⟨a', b', c'⟩ := y
  have h0 := h 0 (by decide)
  have h1 := h 1 (by decide)
  have h2 := h 2 (by decide)
  simp [KE] at h0 h1 h2
  subst h0 h1 h2
  rfl
theorem pe_inj (x y : Nat) (h : ∀ j, j < 1 → PE x j = PE y j) : x = y := by
  have h0 := h 0 (by decide)
  simp [PE] at h0
  exact h0
theorem slv_inj {s t : SlV} (h : s.v = t.v) : s = t := by
  obtain ⟨a, b, c⟩ := s
  obtain ⟨a', b', c'⟩ := t
  simp [SlV.v] at h
  obtain ⟨rfl, rfl, rfl⟩ := h
  rfl
theorem nodeF_hd {w : World} {d : NodeD} (h : (nodeF d).p w) : (hdB d).p w := h (hdB d) (.head _)
theorem nodeF_K {w : World} {d : NodeD} (h : (nodeF d).p w) : Sl w d.K.A 3 KE d.Ks := h (sl d.K.A 3 KE d.Ks) (.tail _ (.head _))
theorem nodeF_V {w : World} {d : NodeD} (h : (nodeF d).p w) : Sl w d.V.A 1 (IE .u32) d.Vs := h (sl d.V.A 1 (IE .u32) d.Vs) (.tail _ (.tail _ (.head _)))
theorem nodeF_C {w : World} {d : NodeD} (h : (nodeF d).p w) : Sl w d.C.A 1 PE d.Cs := h (sl d.C.A 1 PE d.Cs) (.tail _ (.tail _ (.tail _ (.head _))))
/-- Two nodes at one place are alike. -/
theorem hd_same {w : World} {d d' : NodeD} (h : (nodeF d).p w) (h' : (nodeF d').p w) (ok : d.Ok) (ok' : d'.Ok) (e : d.g = d'.g) : d.leaf = d'.leaf ∧ d.Ks = d'.Ks ∧ d.Cs = d'.Cs := by
  have k := fun i => (hd_cell (nodeF_hd h) i).symm.trans (e ▸ hd_cell (nodeF_hd h') i)
  have k0 := k 0
  have k1 := k 1
  have k3 := k 3
  simp at k0 k1 k3
  have eK := slv_inj k1
  have eC := slv_inj k3
  refine ⟨k0, ?_, ?_⟩
  · refine sl_inj (nodeF_K h) (eK ▸ nodeF_K h') ?_ ke_inj
    rw [← ok.K.n, ← ok'.K.n, eK]
  · refine sl_inj (nodeF_C h) (eC ▸ nodeF_C h') ?_ pe_inj
    rw [← ok.C.n, ← ok'.C.n, eC]
theorem ok_leaf : ∀ {h : Nat} {t : T h}, Ok h t → ((nd h t).leaf = true ↔ h = 0)
  | 0, _, ok => ⟨fun _ => rfl, fun _ => ok.1.leaf⟩
  | h + 1, _, ok => ⟨fun e => absurd (e.symm.trans ok.1.leaf) (by decide), fun e => absurd e (Nat.succ_ne_zero h)⟩
theorem ok_nd : ∀ {h : Nat} {t : T h}, Ok h t → (nd h t).Ok
  | 0, _, ok => ok.1.ok
  | _ + 1, _, ok => ok.1.ok
theorem tree_p {w : World} {h : Nat} {t : T h} (H : (treeF h t).p w) {d : NodeD} (hd : d ∈ nds h t) : (nodeF d).p w := (der_tn h t hd).p w fun ψ hψ => by obtain rfl := List.mem_singleton.1 hψ; exact H
theorem kid_p {w : World} {h : Nat} {t : T (h + 1)} (H : (treeF (h + 1) t).p w) {k : T h} (hk : k ∈ t.2) : (treeF h k).p w := (der_kid hk).p w fun ψ hψ => by obtain rfl := List.mem_singleton.1 hψ; exact H
theorem nd_same {w : World} : ∀ {h h' : Nat} {t : T h} {t' : T h'}, Ok h t → Ok h' t' → (treeF h t).p w → (treeF h' t').p w → (nd h t).g = (nd h' t').g → h = h' ∧ (nd h t).Ks = (nd h' t').Ks
  | 0, h', t, t', ok, ok', H, H', e => by
    obtain ⟨e1, e2, _⟩ := hd_same (tree_p H (nds_self _ _)) (tree_p H' (nds_self _ _)) (ok_nd ok) (ok_nd ok') e
    exact ⟨((ok_leaf ok').1 (e1 ▸ (ok_leaf ok).2 rfl)).symm, e2⟩
  | h + 1, 0, t, t', ok, ok', H, H', e => by
    obtain ⟨e1, e2, _⟩ := hd_same (tree_p H (nds_self _ _)) (tree_p H' (nds_self _ _)) (ok_nd ok) (ok_nd ok') e
    exact absurd ((ok_leaf ok).1 (e1.trans ((ok_leaf ok').2 rfl))) (Nat.succ_ne_zero h)
  | h + 1, h' + 1, t, t', ok, ok', H, H', e => by
    obtain ⟨e1, e2, e3⟩ := hd_same (tree_p H (nds_self _ _)) (tree_p H' (nds_self _ _)) (ok_nd ok) (ok_nd ok') e
    refine ⟨?_, e2⟩
    have c1 : (nd (h + 1) t).Cs = (t.2.map (nd h)).map NodeD.g := ok.1.Cs
    have c2 : (nd (h' + 1) t').Cs = (t'.2.map (nd h')).map NodeD.g := ok'.1.Cs
    have n1 := ok.2.1
    have n2 := ok'.2.1
    rw [c1, c2] at e3
    obtain ⟨k, hk⟩ : ∃ k, t.2[0]? = some k := ⟨t.2[0], List.getElem?_eq_getElem n1⟩
    obtain ⟨k', hk'⟩ : ∃ k', t'.2[0]? = some k' := ⟨t'.2[0], List.getElem?_eq_getElem n2⟩
    have e4 := congrArg (·[0]?) e3
    simp only [List.getElem?_map, hk, hk', Option.map_some] at e4
    have m := List.mem_of_getElem? hk
    have m' := List.mem_of_getElem? hk'
    have := (nd_same (ok.2.2 k m) (ok'.2.2 k' m') (kid_p H m) (kid_p H' m') (Option.some.inj e4)).1
    omega
/-- A node below, with its first key. -/
theorem sub_of {w : World} : ∀ {h : Nat} {t : T h}, Ok h t → (treeF h t).p w → ∀ {g : Nat}, g ∈ gs h t → ∃ (h' : Nat) (s : T h'), h' ≤ h ∧ Ok h' s ∧ (treeF h' s).p w ∧ (nd h' s).g = g ∧ fstK (ents h' s) ∈ keysOf (ents h t)
  | 0, t, ok, H, g, hg => by
    obtain rfl := List.mem_singleton.1 hg
    obtain ⟨y, r, e1, e2⟩ := fstK_at (first_key 0 t ok).1
    exact ⟨0, t, Nat.le_refl _, ok, H, rfl, by rw [e2, e1]; exact .head _⟩
  | h + 1, t, ok, H, g, hg => by
    rcases List.mem_cons.1 hg with rfl | hg
    · obtain ⟨y, r, e1, e2⟩ := fstK_at (first_key (h + 1) t ok).1
      exact ⟨h + 1, t, Nat.le_refl _, ok, H, rfl, by rw [e2, e1]; exact .head _⟩
    · obtain ⟨l, hl, hg⟩ := List.mem_flatten.1 hg
      obtain ⟨k, hk, rfl⟩ := List.mem_map.1 hl
      obtain ⟨h', s, a1, a2, a3, a4, a5⟩ := sub_of (ok.2.2 k hk) (kid_p H hk) hg
      refine ⟨h', s, by omega, a2, a3, a4, ?_⟩
      obtain ⟨x, hx, e⟩ := List.mem_map.1 a5
      refine List.mem_map.2 ⟨x, ?_, e⟩
      show x ∈ (t.2.map (ents h)).flatten
      exact List.mem_flatten.2 ⟨_, List.mem_map.2 ⟨k, hk, rfl⟩, hx⟩
theorem klt_irrefl' {x : KeyD} (h : klt x x) : False := by unfold klt at h; omega
/-- Rows one behind the other, whose keys rise: a key lies in one of them only. -/
theorem rows_apart {Ls : List (List EntD)} (ha : AscK (keysOf Ls.flatten)) {i j : Nat} {A B : List EntD} (hA : Ls[i]? = some A) (hB : Ls[j]? = some B) (hij : i < j) {x : KeyD} (h1 : x ∈ keysOf A) (h2 : x ∈ keysOf B) : False := by
  have e := flat_split Ls hA
  obtain ⟨a, ha1, ea⟩ := List.mem_map.1 h1
  obtain ⟨b, hb1, eb⟩ := List.mem_map.1 h2
  have hb2 : b ∈ (Ls.drop (i + 1)).flatten := by
    refine List.mem_flatten.2 ⟨B, ?_, hb1⟩
    refine List.mem_of_getElem? (i := j - (i + 1)) ?_
    rw [List.getElem?_drop, show i + 1 + (j - (i + 1)) = j by omega]
    exact hB
  obtain ⟨p, hp⟩ := List.getElem?_of_mem (List.mem_append_right (Ls.take i).flatten ha1)
  obtain ⟨q, hq⟩ := List.getElem?_of_mem hb2
  have hp1 := (List.getElem?_eq_some_iff.1 hp).1
  have hq1 := (List.getElem?_eq_some_iff.1 hq).1
  rw [e] at ha
  have k := ha p (((Ls.take i).flatten ++ A).length + q) (by omega) (by simp only [List.length_map, List.length_append] at hp1 ⊢; omega)
  rw [List.getD_eq_getElem?_getD, List.getD_eq_getElem?_getD, List.getElem?_map, List.getElem?_map, List.getElem?_append_left hp1, hp, List.getElem?_append_right (Nat.le_add_right _ _), Nat.add_sub_cancel_left, hq] at k
  have k' : klt a.k b.k := k
  rw [ea, eb] at k'
  exact klt_irrefl' k'
theorem asc_kid {h : Nat} {t : T (h + 1)} (ha : AscK (keysOf (ents (h + 1) t))) {k : T h} (hk : k ∈ t.2) : AscK (keysOf (ents h k)) := by
  obtain ⟨i, hi⟩ := List.getElem?_of_mem hk
  have e : ents (h + 1) t = ((t.2.map (ents h)).take i).flatten ++ ents h k ++ ((t.2.map (ents h)).drop (i + 1)).flatten := flat_split (t.2.map (ents h)) (by rw [List.getElem?_map, hi]; rfl)
  intro p q hpq hq
  rw [List.length_map] at hq
  have k1 := ha (((t.2.map (ents h)).take i).flatten.length + p) (((t.2.map (ents h)).take i).flatten.length + q) (by omega) (by rw [e, List.length_map, List.length_append, List.length_append]; omega)
  have key : ∀ r, r < (ents h k).length → (keysOf (ents (h + 1) t)).getD (((t.2.map (ents h)).take i).flatten.length + r) default = (keysOf (ents h k)).getD r default := fun r hr => by
    rw [List.getD_eq_getElem?_getD, List.getD_eq_getElem?_getD, List.getElem?_map, List.getElem?_map, e, List.getElem?_append_left (by rw [List.length_append]; omega), List.getElem?_append_right (Nat.le_add_right _ _), Nat.add_sub_cancel_left]
  rw [key p (by omega), key q hq] at k1
  exact k1
/-- A tree's nodes lie at places of their own. -/
theorem gs_nodup {w : World} : ∀ {h : Nat} {t : T h}, Ok h t → AscK (keysOf (ents h t)) → (treeF h t).p w → (gs h t).Nodup
  | 0, t, ok, ha, H => by simp [gs]
  | h + 1, t, ok, ha, H => by
    refine List.nodup_cons.2 ⟨fun hg => ?_, ?_⟩
    · obtain ⟨l, hl, hg⟩ := List.mem_flatten.1 hg
      obtain ⟨k, hk, rfl⟩ := List.mem_map.1 hl
      obtain ⟨h', s, a1, a2, a3, a4, a5⟩ := sub_of (ok.2.2 k hk) (kid_p H hk) hg
      have := (nd_same a2 ok a3 H a4).1
      omega
    · refine List.pairwise_flatten.2 ⟨fun l hl => ?_, ?_⟩
      · obtain ⟨k, hk, rfl⟩ := List.mem_map.1 hl
        exact gs_nodup (ok.2.2 k hk) (asc_kid ha hk) (kid_p H hk)
      · refine List.pairwise_iff_getElem.2 fun i j i1 j1 hij x hx y hy e => ?_
        subst e
        rw [List.length_map] at i1 j1
        rw [List.getElem_map] at hx hy
        have mi : t.2[i] ∈ t.2 := List.getElem_mem i1
        have mj : t.2[j] ∈ t.2 := List.getElem_mem j1
        obtain ⟨h1, s1, a1, a2, a3, a4, a5⟩ := sub_of (ok.2.2 _ mi) (kid_p H mi) hx
        obtain ⟨h2, s2, b1, b2, b3, b4, b5⟩ := sub_of (ok.2.2 _ mj) (kid_p H mj) hy
        have e2 := (nd_same a2 b2 a3 b3 (a4.trans b4.symm)).2
        have f1 := (first_key h1 s1 a2).2
        have f2 := (first_key h2 s2 b2).2
        rw [e2, f2] at f1
        rw [f1] at b5
        exact rows_apart (Ls := t.2.map (ents h)) ha (by rw [List.getElem?_map, List.getElem?_eq_getElem i1]; rfl) (by rw [List.getElem?_map, List.getElem?_eq_getElem j1]; rfl) hij a5 b5
end Go.Proofs.YtaghmffgoomebaaGreat.Tr
