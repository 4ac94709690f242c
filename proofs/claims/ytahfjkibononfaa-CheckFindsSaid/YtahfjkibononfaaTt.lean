/- A tree's state, call by call: Set and Delete of any tree, one with a root or none. -/
import Derived.Test.YtahfjkibononfaaTd
import Derived.Test.YtahfjkibononfaaTq0
namespace Go.Proofs.Ytahfjkibononfaa.Tw
open Go.RowKit Mem Nd Gx Sk
open Tr hiding T row
set_option linter.unusedVariables false
set_option linter.unusedSimpArgs false
set_option maxRecDepth 100000
set_option maxHeartbeats 4000000
structure StO where
  a : Option AT
  M : List EntD
  was : Int
  had : Bool
/-- How the tree has changed. -/
def SetX : Option AT → EntD → Option AT → Prop
  | none, _, _ => True
  | some a, e, b => ∃ c, b = some c ∧ SetS a.t e c
def DelX : Option AT → KeyD → Bool → Option AT → Prop
  | none, _, _, b => b = none
  | some a, k, had, b => (had = false → b = some a) ∧ (had = true → DelS a.t k b)
structure StSet (a : Option AT) (L : List EntD) (e : EntD) (s : StO) : Prop where
  p : ∃ p, PosK (keysOf L) e.k p ∧ s.M = setAt L e p ∧ s.had = tB ((keysOf L)[p]? = some e.k) ∧ s.was = (if s.had = true then (L.getD p default).a else 0)
  has : HasO s.a s.M
  x : SetX a e s.a
structure StDel (a : Option AT) (L : List EntD) (k : KeyD) (s : StO) : Prop where
  p : ∃ p, PosK (keysOf L) k p ∧ s.M = delAt L k p ∧ s.had = tB ((keysOf L)[p]? = some k) ∧ s.was = (if s.had = true then (L.getD p default).a else 0)
  has : HasO s.a s.M
  x : DelX a k s.had s.a
theorem retX_mono {σ τ : Type} {g T : Nat} {I : σ → Prop} {V : σ → Value} {CS : σ → List Value} {FF : σ → List Fact} {RA : List Fact} {J : τ → Prop} {V' : τ → Value} {CS' : τ → List Value} {F' : τ → Fact} {RB : List Fact} {w : World} {e : Ending} {w' : World}
    (h : RetX g T I V CS FF RA w e w') (f : ∀ s, I s → ∃ s', J s' ∧ V s = V' s' ∧ CS s = CS' s' ∧ Der (FF s) (F' s')) (hRA : ∀ ψ, ψ ∈ RA → ∀ b, ψ.S b → ∃ χ, χ ∈ RB ∧ χ.S b) : RetX g T J V' CS' (fun s => [F' s]) RB w e w' := by
  obtain ⟨s, hI, he, hf, hr⟩ := h
  obtain ⟨s', h1, h2, h3, h4⟩ := f s hI
  refine ⟨s', h1, by rw [he, h2], by rw [← h3]; exact hf, .cons ⟨h4.p w' fun ψ hψ => (hr.mem hψ).1, fun b hb => ?_⟩ .nil⟩
  obtain ⟨ψ, h5, h6⟩ := h4.S b hb
  obtain ⟨h7, h8⟩ := (hr.mem h5).2 b h6
  exact ⟨h7, h8.imp id fun ⟨χ, h9, h10⟩ => hRA χ h9 b h10⟩
theorem der_st (a : AT) : Der [treeF a.h a.t] (stF (some a)) := Der.all fun x hx => by
  obtain rfl := List.mem_singleton.1 hx
  exact Der.mem (.head _)
theorem st_S {a : AT} {b : Nat} (h : (treeF a.h a.t).S b) : (stF (some a)).S b := ⟨a, .head _, h⟩
theorem st_der (a : AT) : Der [stF (some a)] (treeF a.h a.t) := Der.elem (L := [a]) (F := fun a : AT => treeF a.h a.t) (Der.mem (.head _)) (.head _)
theorem st_rd {w : World} {a : AT} (h : Rd1 w (stF (some a))) : Rd1 w (treeF a.h a.t) := (st_der a).rd fun ψ hψ => by obtain rfl := List.mem_singleton.1 hψ; exact h
theorem setAt_found {L : List EntD} {e : EntD} {p : Nat} (hp : PosK (keysOf L) e.k p) : (setAt L e p).length = (if tB ((keysOf L)[p]? = some e.k) = true then L.length else L.length + 1) := by
  have := hp.le
  rw [List.length_map] at this
  unfold setAt
  split
  · rw [List.length_set]
  · simp only [List.length_append, List.length_take, List.length_drop, List.length_cons, List.length_nil]; omega
theorem delAt_found {L : List EntD} {k : KeyD} {p : Nat} (hp : PosK (keysOf L) k p) : (delAt L k p).length = (if tB ((keysOf L)[p]? = some k) = true then L.length - 1 else L.length) := by
  unfold delAt
  split
  · rename_i h
    have := (List.getElem?_eq_some_iff.1 (tB_iff.1 h)).1
    rw [List.length_map] at this
    simp only [List.length_append, List.length_take, List.length_drop]; omega
  · rfl
theorem pos_nil (k : KeyD) : PosK (keysOf []) k 0 := ⟨Nat.le_refl _, fun m h => absurd h (by omega), fun m _ h => absurd h (by simp)⟩
theorem nil_not (k : KeyD) : tB ((keysOf [])[0]? = some k) = false := tB_false (by simp)
theorem set_nil (e : EntD) (tg : Nat) (w : World) (hB : w.heap[tg]? = some (.cells [.pointer none, .int .i64 0].toArray 63 (0, 0))) :
    Calls Try.prog 27 [.pointer (some ⟨tg, 0, none⟩), e.val].toArray w (RetX tg 63 (StSet none [] e) (fun s => .tuple #[.int .u32 s.was, .bool s.had]) (fun s => [rootV s.a, .int .i64 (s.M.length : Int)]) (fun s => [stF s.a]) [stF none] w) := by
  refine g_enter0 T [tg] [blk tg [.pointer none, .int .i64 0] 63] [] Try.func27 rfl Try.ntmps27 rfl (Kn.startW hB) ?_
  (repeat (refine gG ?_; try intro _))
  rename_i g3
  refine g_mv rfl ?_; refine mv_call_rt (fun w hk => way_nil e.k tg 0 w (hk.rO mE)) rfl rfl rfl rfl rfl (by kernel_rfl) (fun _ => rfl) (fun sg _ => ?_)
  (repeat (refine gG ?_; try intro _))
  rename_i g5
  refine g_mv rfl ?_; refine mv_call_rt (fun w hk => leaf_any (some ⟨g5, 0, none⟩) 1 1 [e] w rfl (by simp) (sl_of_blk (hk.pO (blk g5 [.int .u16 e.k.v, .int .u32 e.k.b, .int .u64 e.k.s, .int .u32 e.a] 29) mE) rfl)) rfl rfl rfl rfl rfl (by kernel_rfl) (fun _ => rfl) (fun d hd => ?_)
  (repeat (refine gG ?_; try intro _))
  refine gk_shareE (φ := blk d.g [.bool d.leaf, d.K.v, d.V.v, d.C.v, .int .u32 d.a] 40) (ψ := blk tg [d.ptr, .int .i64 1] 63) (e := tg) rfl (by repeat (first | with_reducible exact Sel.here | with_reducible apply Sel.there)) mE rfl (fun hb1 => ?_)
  refine gk_shareE (φ := sl d.K.A 3 KE d.Ks) (ψ := blk tg [d.ptr, .int .i64 1] 63) (e := tg) rfl (by repeat (first | with_reducible exact Sel.here | with_reducible apply Sel.there)) mE rfl (fun hb2 => ?_)
  refine gk_shareE (φ := sl d.V.A 1 (IE .u32) d.Vs) (ψ := blk tg [d.ptr, .int .i64 1] 63) (e := tg) rfl (by repeat (first | with_reducible exact Sel.here | with_reducible apply Sel.there)) mE rfl (fun hb3 => ?_)
  refine gk_shareE (φ := sl d.C.A 1 PE d.Cs) (ψ := blk tg [d.ptr, .int .i64 1] 63) (e := tg) rfl (by repeat (first | with_reducible exact Sel.here | with_reducible apply Sel.there)) mE rfl (fun hb4 => ?_)
  refine gk_der [blk d.g [.bool d.leaf, d.K.v, d.V.v, d.C.v, .int .u32 d.a] 40, sl d.K.A 3 KE d.Ks, sl d.V.A 1 (IE .u32) d.Vs, sl d.C.A 1 PE d.Cs] (der_node d) sS ?_
  have hD : Der [nodeF d] (stF (some ⟨0, ((d, [e]) : NodeD × List EntD)⟩)) := der_st ⟨0, ((d, [e]) : NodeD × List EntD)⟩
  refine gk_der [nodeF d] hD sS ?_
  have hnew : New w [stF none] (stF (some ⟨0, ((d, [e]) : NodeD × List EntD)⟩)) := hD.new fun ψ hψ => by
    obtain rfl := List.mem_singleton.1 hψ
    refine (der_node d).new fun χ hχ b hb => .inl ?_
    rcases List.mem_cons.1 hχ with rfl | hχ
    · exact hb1 b hb
    rcases List.mem_cons.1 hχ with rfl | hχ
    · exact hb2 b hb
    rcases List.mem_cons.1 hχ with rfl | hχ
    · exact hb3 b hb
    obtain rfl := List.mem_singleton.1 hχ
    exact hb4 b hb
  refine gk_ret hT rfl rfl (.tmp rfl (.tmp rfl .nil)) (fun w' hk => ?_)
  refine RetX.mk ⟨some ⟨0, ((d, [e]) : NodeD × List EntD)⟩, [e], 0, false⟩ ⟨⟨0, pos_nil e.k, ?_, (nil_not e.k).symm, rfl⟩, has_leaf hd, trivial⟩ rfl hk sA (.cons (RS1.rdE hk mE hnew) .nil)
  unfold setAt
  rw [if_neg (by rw [nil_not]; decide)]
  rfl
theorem st_set (a : Option AT) (L : List EntD) (e : EntD) (tg : Nat) (w : World) (hh : HasO a L) (h9 : L.length ≤ 160) (hB : w.heap[tg]? = some (.cells [rootV a, .int .i64 (L.length : Int)].toArray 63 (0, 0))) (hF : Rd1 w (stF a)) (hdis : ¬ (stF a).S tg) :
    Calls Try.prog 27 [.pointer (some ⟨tg, 0, none⟩), e.val].toArray w (RetX tg 63 (StSet a L e) (fun s => .tuple #[.int .u32 s.was, .bool s.had]) (fun s => [rootV s.a, .int .i64 (s.M.length : Int)]) (fun s => [stF s.a]) [stF a] w) := by
  cases a with
  | none =>
    obtain rfl : L = [] := hh
    exact set_nil e tg w hB
  | some a =>
    refine (set_any a.t e L tg w hh h9 hB (st_rd hF) (fun h => hdis (st_S h))).mono fun en w' hr => ?_
    refine retX_mono hr (fun s hs => ?_) (fun ψ hψ b hb => ⟨_, .head _, by obtain rfl := List.mem_singleton.1 hψ; exact st_S hb⟩)
    obtain ⟨p, h1, h2, h3, h4⟩ := hs.p
    refine ⟨⟨some s.a, setAt L e p, s.was, s.had⟩, ⟨⟨p, h1, rfl, h3, h4⟩, h2, ⟨_, rfl, hs.set⟩⟩, rfl, ?_, der_st s.a⟩
    show [_, Value.int .i64 _] = [_, Value.int .i64 _]
    rw [setAt_found h1, h3]
    rfl
theorem delete_nil (k : KeyD) (tg : Nat) (w : World) (hB : w.heap[tg]? = some (.cells [.pointer none, .int .i64 0].toArray 63 (0, 0))) :
    Calls Try.prog 26 [.pointer (some ⟨tg, 0, none⟩), k.val].toArray w (RetX tg 63 (StDel none [] k) (fun s => .tuple #[.int .u32 s.was, .bool s.had]) (fun s => [rootV s.a, .int .i64 (s.M.length : Int)]) (fun s => [stF s.a]) [stF none] w) := by
  refine g_enter0 T [tg] [blk tg [.pointer none, .int .i64 0] 63] [] Try.func26 rfl Try.ntmps26 rfl (Kn.startW hB) ?_
  (repeat (refine gG ?_; try intro _))
  rename_i g3
  refine g_mv rfl ?_; refine mv_call_rt (fun w hk => way_nil k tg 0 w (hk.rO mE)) rfl rfl rfl rfl rfl (by kernel_rfl) (fun _ => rfl) (fun sg _ => ?_)
  (repeat (refine gG ?_; try intro _))
  refine gk_der [] (φ := stF none) (Der.all fun x hx => by cases hx) (List.nil_subset _) ?_
  refine gk_ret hT rfl rfl (.tmp rfl (.tmp rfl .nil)) (fun w' hk => ?_)
  refine RetX.mk ⟨none, [], 0, false⟩ ⟨⟨0, pos_nil k, ?_, (nil_not k).symm, rfl⟩, rfl, rfl⟩ rfl hk sA (.cons (RS1.rdE hk mE (New.all fun x hx => by cases hx)) .nil)
  unfold delAt
  rw [if_neg (by rw [nil_not]; decide)]
theorem st_delete (a : Option AT) (L : List EntD) (k : KeyD) (tg : Nat) (w : World) (hh : HasO a L) (h9 : L.length ≤ 160) (hB : w.heap[tg]? = some (.cells [rootV a, .int .i64 (L.length : Int)].toArray 63 (0, 0))) (hF : Rd1 w (stF a)) (hdis : ¬ (stF a).S tg) :
    Calls Try.prog 26 [.pointer (some ⟨tg, 0, none⟩), k.val].toArray w (RetX tg 63 (StDel a L k) (fun s => .tuple #[.int .u32 s.was, .bool s.had]) (fun s => [rootV s.a, .int .i64 (s.M.length : Int)]) (fun s => [stF s.a]) [stF a] w) := by
  cases a with
  | none =>
    obtain rfl : L = [] := hh
    exact delete_nil k tg w hB
  | some a =>
    refine (delete_any a.t k L tg w hh h9 hB (st_rd hF) (fun h => hdis (st_S h))).mono fun en w' hr => ?_
    refine retX_mono hr (fun s hs => ?_) (fun ψ hψ b hb => ⟨_, .head _, by obtain rfl := List.mem_singleton.1 hψ; exact st_S hb⟩)
    obtain ⟨p, h1, h2, h3, h4⟩ := hs.p
    refine ⟨⟨s.a, delAt L k p, s.was, s.had⟩, ⟨⟨p, h1, rfl, h3, h4⟩, h2, hs.no, hs.yes⟩, rfl, ?_, Der.mem (.head _)⟩
    show [_, Value.int .i64 _] = [_, Value.int .i64 _]
    rw [delAt_found h1, h3]
end Go.Proofs.Ytahfjkibononfaa.Tw

