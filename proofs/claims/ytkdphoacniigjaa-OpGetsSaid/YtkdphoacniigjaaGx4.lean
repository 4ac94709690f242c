/- Fourth part: the walk: operations, calls, tests, loops, results. -/
import Derived.Test.YtkdphoacniigjaaGx3
namespace Go.Proofs.Ytkdphoacniigjaa.Gx
open Go.RowKit Mem
set_option linter.unusedVariables false
set_option linter.unusedSimpArgs false

/-- What a walk is about: the program, its types' table, the function, how many slots it has, which old blocks it may write, the world at its start, what is to hold at its end. -/
structure Cx where
  P : Program
  T : Tab
  fn : Func
  n : Nat
  E : List Nat
  w0 : World
  Post : Ending → World → Prop
inductive KI where
  | code (c : Code)
  | blk (id : Nat)
  | inv (I : Act → World → Prop)
def wpK (P : Program) (Q : Exit → Act → World → Prop) : List KI → Exit → Act → World → Prop
  | [] => Q
  | .code c :: k => Exit.then (fun a w => c.wp P (wpK P Q k) a w) (wpK P Q k)
  | .blk id :: k => Exit.inBlock id (wpK P Q k)
  | .inv I :: k => Exit.then I (wpK P Q k)
theorem wpK_ret {P : Program} {Q : Exit → Act → World → Prop} {a : Act} {w : World} (h : Q .ret a w) : ∀ ks, wpK P Q ks .ret a w
  | [] => h
  | .code c :: k => wpK_ret (P := P) h k
  | .blk id :: k => wpK_ret (P := P) h k
  | .inv I :: k => wpK_ret (P := P) h k
def unwind (id : Nat) : List KI → Option (List KI)
  | [] => none
  | .blk j :: k => bif Nat.beq j id then some k else unwind id k
  | .code _ :: k => unwind id k
  | .inv _ :: k => unwind id k
theorem unwind_sound {P : Program} {Q : Exit → Act → World → Prop} {a : Act} {w : World} {id : Nat} : ∀ {ks k' : List KI}, unwind id ks = some k' → wpK P Q k' .normal a w → wpK P Q ks (.exit id) a w
  | [], _, h, _ => by cases h
  | .code c :: k, k', h, hw => unwind_sound (ks := k) h hw
  | .inv I :: k, k', h, hw => unwind_sound (ks := k) h hw
  | .blk j :: k, k', h, hw => by
    unfold unwind at h
    cases hb : Nat.beq j id with
    | true =>
      rw [hb] at h
      have e := Option.some.inj h
      have hj := Nat.eq_of_beq_eq_true hb
      subst e
      show (if id = j then wpK P Q k .normal a w else wpK P Q k (.exit id) a w)
      rw [if_pos hj.symm]
      exact hw
    | false =>
      rw [hb] at h
      show (if id = j then wpK P Q k .normal a w else wpK P Q k (.exit id) a w)
      have hj : id ≠ j := fun e => by subst e; rw [Nat.beq_refl] at hb; cases hb
      rw [if_neg hj]
      exact unwind_sound h hw
inductive Nx where
  | region (id : Nat) (l : List Oper) (d : Bool) (k : List KI)
  | cond (c : Operand) (x y : Code) (k : List KI)
  | loop (c : Code) (k : List KI)
  | ret
  | fin
  | inv (I : Act → World → Prop)
def nx : Nat → List KI → Option Nx
  | 0, _ => none
  | _ + 1, [] => some .fin
  | m + 1, .code c :: k => (match c with
    | .skip => nx m k
    | .seq x y => nx m (.code x :: .code y :: k)
    | .block id c => nx m (.code c :: .blk id :: k)
    | .region id ops d => (match ops with | ⟨l⟩ => some (.region id l d k))
    | .cond c x y => some (.cond c x y k)
    | .loop c => some (.loop c k)
    | .ret => some .ret
    | .exit id => (match unwind id k with | some k' => nx m k' | none => none)
    | _ => none)
  | m + 1, .blk _ :: k => nx m k
  | _ + 1, .inv I :: _ => some (.inv I)
def Nx.holds (P : Program) (Q : Exit → Act → World → Prop) : Nx → Act → World → Prop
  | .region id l d k, a, w => (Code.region id l.toArray d).wp P (wpK P Q k) a w
  | .cond c x y k, a, w => (Code.cond c x y).wp P (wpK P Q k) a w
  | .loop c k, a, w => (Code.loop c).wp P (wpK P Q k) a w
  | .ret, a, w => Q .ret a w
  | .fin, a, w => Q .normal a w
  | .inv I, a, w => I a w
theorem nx_sound {P : Program} {Q : Exit → Act → World → Prop} {a : Act} {w : World} : ∀ {m : Nat} {ks : List KI} {r : Nx}, nx m ks = some r → r.holds P Q a w → wpK P Q ks .normal a w
  | 0, _, _, h, _ => by cases h
  | _ + 1, [], _, h, hr => by
    have e := Option.some.inj h
    subst e
    exact hr
  | m + 1, .blk _ :: k, _, h, hr => nx_sound (m := m) (ks := k) h hr
  | _ + 1, .inv I :: _, _, h, hr => by
    have e := Option.some.inj h
    subst e
    exact hr
  | m + 1, .code c :: k, r, h, hr => by
    show c.wp P (wpK P Q k) a w
    cases c with
    | skip => exact wp_skip (nx_sound (m := m) (ks := k) h hr)
    | seq x y => exact wp_seq (nx_sound (m := m) (ks := .code x :: .code y :: k) h hr)
    | block id c => exact wp_block (nx_sound (m := m) (ks := .code c :: .blk id :: k) h hr)
    | region id ops d =>
      obtain ⟨l⟩ := ops
      have e := Option.some.inj h
      subst e
      exact hr
    | cond c x y =>
      have e := Option.some.inj h
      subst e
      exact hr
    | loop c =>
      have e := Option.some.inj h
      subst e
      exact hr
    | ret =>
      have e := Option.some.inj h
      subst e
      exact wp_ret (wpK_ret hr k)
    | exit id =>
      simp only [nx] at h
      split at h
      · rename_i k' hk
        exact wp_exit (unwind_sound hk (nx_sound (m := m) h hr))
      · cases h
    | _ => cases h

section
variable (X : Cx)
def Cx.Q : Exit → Act → World → Prop := bodyPost X.P X.fn X.Post
structure GK (ks : List KI) (f : Fr) (O R : List Fact) : Prop where mk ::
  out : ∀ a w, Rel X.n a f → Kn X.E X.w0 w O R → wpK X.P X.Q ks .normal a w
structure G (ops l : List Oper) (k : List KI) (f : Fr) (O R : List Fact) : Prop where mk ::
  out : ∀ a w, Rel X.n a f → Kn X.E X.w0 w O R → wpList X.P ops.toArray (wpK X.P X.Q k) l a w
end
section
variable {X : Cx} {f : Fr} {O R : List Fact} {ks k : List KI}
/-- The beginning. -/
theorem g_enter {P : Program} (T : Tab) {f : FuncId} {fn : Func} {c : Code} {args : List Value} {w : World} {Post : Ending → World → Prop} (E : List Nat) (f0 : Fr) (O R : List Fact)
    (hf : P.funcs[f]? = some fn) (hb : fn.body = some c) {n : Nat} (hn : fn.ntmps = n) (hl : Nat.ble args.length n = true)
    (hf0 : ∀ t v, fget f0 t = some v → args[t]? = some v) (hk : Kn E w w O R)
    (h : GK ⟨P, T, fn, n, E, w, Post⟩ [.code c] f0 O R) : Calls P f args.toArray w Post := by
  refine calls_of_wp hf hb (h.out _ w ⟨?_, rfl, fun t v ht hv => ?_⟩ hk)
  · have := Nat.le_of_ble_eq_true hl
    simp [hn]; omega
  · have h1 := hf0 t v hv
    have ht' : t < args.length := by
      rcases Nat.lt_or_ge t args.length with h2 | h2
      · exact h2
      · rw [List.getElem?_eq_none h2] at h1; cases h1
    show (args.toArray ++ Array.replicate (fn.ntmps - args.toArray.size) undef)[t]? = some v
    rw [Array.getElem?_append_left (by simpa using ht')]
    simpa using h1
def args0 : Nat → List Value → Fr
  | _, [] => []
  | t, v :: r => (t, v) :: args0 (t + 1) r
theorem args0_ok : ∀ (l : List Value) (s t : Nat) (v : Value), fget (args0 s l) t = some v → s ≤ t ∧ l[t - s]? = some v
  | [], s, t, v, h => by cases h
  | u :: r, s, t, v, h => by
    unfold args0 fget at h
    cases hb : Nat.beq s t with
    | true =>
      rw [hb] at h
      have e := Nat.eq_of_beq_eq_true hb
      subst e
      refine ⟨Nat.le_refl _, ?_⟩
      rw [Nat.sub_self]
      exact h
    | false =>
      rw [hb] at h
      obtain ⟨h1, h2⟩ := args0_ok r (s + 1) t v h
      refine ⟨by omega, ?_⟩
      rw [show t - s = (t - (s + 1)) + 1 by omega]
      simpa using h2
theorem g_enter0 {P : Program} (T : Tab) {f : FuncId} {fn : Func} {c : Code} {args : List Value} {w : World} {Post : Ending → World → Prop} (E : List Nat) (O R : List Fact)
    (hf : P.funcs[f]? = some fn) (hb : fn.body = some c) {n : Nat} (hn : fn.ntmps = n) (hl : Nat.ble args.length n = true) (hk : Kn E w w O R)
    (h : GK ⟨P, T, fn, n, E, w, Post⟩ [.code c] (args0 0 args) O R) : Calls P f args.toArray w Post :=
  g_enter T E _ O R hf hb hn hl (fun t v hv => by have := (args0_ok args 0 t v hv).2; simpa using this) hk h
theorem gk_region {id : Nat} {l : List Oper} (h : nx 1000 ks = some (.region id l false k)) (hg : G X l l k f O R) : GK X ks f O R := .mk fun a w hr hk =>
  nx_sound h (wp_region_lit (hg.out a w hr hk))
theorem gk_cond_t {c : Operand} {x y : Code} (h : nx 1000 ks = some (.cond c x y k)) (hc : look X.n f c = some (.bool true)) (hg : GK X (.code x :: k) f O R) : GK X ks f O R := .mk fun a w hr hk =>
  nx_sound h (wp_cond_true (hr.look hc) (hg.out a w hr hk))
theorem gk_cond_f {c : Operand} {x y : Code} (h : nx 1000 ks = some (.cond c x y k)) (hc : look X.n f c = some (.bool false)) (hg : GK X (.code y :: k) f O R) : GK X ks f O R := .mk fun a w hr hk =>
  nx_sound h (wp_cond_false (hr.look hc) (hg.out a w hr hk))
/-- What a Bool tells. -/
def Tells (b : Bool) (p q : Prop) : Prop := (b = true → p) ∧ (b = false → q)
theorem tells_tB (p : Prop) : Tells (tB p) p (¬ p) := ⟨fun h => tB_iff.1 h, fun h hp => by rw [tB_true hp] at h; cases h⟩
theorem tells_not {b : Bool} {p q : Prop} (h : Tells b p q) : Tells (!b) q p := by
  unfold Tells at *; cases b <;> simp at h ⊢ <;> exact h
theorem tells_self (b : Bool) : Tells b (b = true) (b = false) := ⟨id, id⟩
theorem gk_cond {c : Operand} {x y : Code} {b : Bool} {p q : Prop} (h : nx 1000 ks = some (.cond c x y k)) (hc : look X.n f c = some (.bool b)) (ht : Tells b p q)
    (h1 : p → GK X (.code x :: k) f O R) (h2 : q → GK X (.code y :: k) f O R) : GK X ks f O R := .mk fun a w hr hk =>
  nx_sound h (wp_cond_split (hr.look hc) (fun e => (h1 (ht.1 e)).out a w hr hk) (fun e => (h2 (ht.2 e)).out a w hr hk))

/-! ### an operation -/
def wantG (n : Nat) (f : Fr) (ops : List Oper) : Option (Nat × Bool) → Option Bool
  | none => some true
  | some (j, b) => (match ops[j]? with
    | some o => (match o.dst with
      | some t => (match look n f (.tmp t) with
        | some (.bool true) => some b
        | some (.bool false) => some (!b)
        | some (.tuple _) => some false
        | _ => none)
      | none => none)
    | none => none)
theorem wantG_sound {n : Nat} {a : Act} {f : Fr} (hr : Rel n a f) {ops : List Oper} {o : Oper} {b : Bool} (h : wantG n f ops o.guard = some b) : Region.wanted o (yielded ops.toArray a.tmps) = b := by
  unfold Region.wanted
  cases hg : o.guard with
  | none => rw [hg] at h; injection h
  | some jb =>
    obtain ⟨j, c⟩ := jb
    rw [hg] at h
    unfold wantG at h
    simp only at h
    split at h
    · rename_i oj hj
      split at h
      · rename_i t ht
        have hy : ∀ v, look n f (.tmp t) = some v → yielded ops.toArray a.tmps j = (match v with | .bool b => some b | _ => none) := fun v hv => by
          have h1 : (bif Nat.blt t n then fget f t else none) = some v := hv
          cases hb : Nat.blt t n with
          | false => rw [hb] at h1; cases h1
          | true =>
            rw [hb] at h1
            have h2 := hr.at_ t v (Nat.le_of_ble_eq_true hb) h1
            unfold yielded
            simp [hj, ht, h2]
            cases v <;> rfl
        split at h
        · rename_i hv; have e := Option.some.inj h; subst e; simp only [hy _ hv]; cases c <;> rfl
        · rename_i hv; have e := Option.some.inj h; subst e; simp only [hy _ hv]; cases c <;> rfl
        · rename_i vs hv; have e := Option.some.inj h; subst e; simp only [hy _ hv]; cases c <;> rfl
        · cases h
      · cases h
    · cases h
variable {ops rest : List Oper} {o : Oper}
theorem g_nil (hg : GK X k f O R) : G X ops [] k f O R := .mk fun a w hr hk => hg.out a w hr hk
theorem g_skip {d : Nat} (hw : wantG X.n f ops o.guard = some false) (hd : o.dst = some d) (hg : G X ops rest k ((d, undef) :: f) O R) : G X ops (o :: rest) k f O R := .mk fun a w hr hk => by
  have h1 := wantG_sound hr hw
  unfold wpList
  rw [if_neg (by rw [h1]; exact Bool.false_ne_true)]
  exact hg.out _ w (hr.put1 hd _) hk
theorem g_skip0 (hw : wantG X.n f ops o.guard = some false) (hd : o.dst = none) (hg : G X ops rest k f O R) : G X ops (o :: rest) k f O R := .mk fun a w hr hk => by
  have h1 := wantG_sound hr hw
  unfold wpList
  rw [if_neg (by rw [h1]; exact Bool.false_ne_true)]
  exact hg.out _ w (hr.put0 hd _) hk
/-- An operation that yields a value, the memory as it was. -/
def Yd (X : Cx) (f : Fr) (O R : List Fact) (o : Oper) (v : Value) : Prop := ∀ a w, Rel X.n a f → Kn X.E X.w0 w O R → (execOp a.eval o).run X.P w = .ok (.value v) w
theorem g_yd {v : Value} {d : Nat} (hw : wantG X.n f ops o.guard = some true) (hd : o.dst = some d) (he : Yd X f O R o v) (hg : G X ops rest k ((d, v) :: f) O R) : G X ops (o :: rest) k f O R := .mk fun a w hr hk => by
  have h1 := wantG_sound hr hw
  unfold wpList
  rw [if_pos h1]
  refine .inl ?_
  unfold Oper.wp
  rw [he a w hr hk]
  exact hg.out _ w (hr.put1 hd _) hk
theorem yd_ev (hT : TabOk X.P X.T) {nw : Bool} {v : Value} {p : Prop} (he : ev X.T nw X.n f o.op = some (v, p)) (hp : p) : Yd X f O R o v := fun a w hr _ => ev_sound hT hr he hp w
theorem g_pure (nw : Bool) (hT : TabOk X.P X.T) {v : Value} {p : Prop} {d : Nat} (hw : wantG X.n f ops o.guard = some true) (hd : o.dst = some d) (he : ev X.T nw X.n f o.op = some (v, p)) (hp : p) (hg : G X ops rest k ((d, v) :: f) O R) : G X ops (o :: rest) k f O R :=
  g_yd hw hd (yd_ev hT he hp) hg
theorem Rel.re {n : Nat} {a : Act} {f : Fr} (h : Rel n a f) {t : Nat} {v u : Value} (hl : Gx.look n f (.tmp t) = some v) (e : v = u) : Rel n a ((t, u) :: f) := by
  subst e
  refine ⟨h.size, h.defers, fun s x hs hx => ?_⟩
  unfold fget at hx
  cases hb : Nat.beq t s with
  | false => rw [hb] at hx; exact h.at_ s x hs hx
  | true =>
    rw [hb] at hx
    have := Nat.eq_of_beq_eq_true hb
    subst this
    injection hx with hx
    subst hx
    have h1 : (bif Nat.blt t n then fget f t else none) = some v := hl
    cases hb : Nat.blt t n with
    | false => rw [hb] at h1; cases h1
    | true => rw [hb] at h1; exact h.at_ t v hs h1
def gslot (ops : List Oper) : Option (Nat × Bool) → Option Nat
  | none => none
  | some (j, _) => (match ops[j]? with | some o => o.dst | none => none)
/-- A guard that is not decided. -/
theorem g_split {t : Nat} {b : Bool} {p q : Prop} (hs : gslot ops o.guard = some t) (hl : look X.n f (.tmp t) = some (.bool b)) (ht : Tells b p q)
    (h1 : p → G X ops (o :: rest) k ((t, .bool true) :: f) O R) (h2 : q → G X ops (o :: rest) k ((t, .bool false) :: f) O R) : G X ops (o :: rest) k f O R := .mk fun a w hr hk => by
  cases b with
  | true => exact (h1 (ht.1 rfl)).out a w (hr.re hl rfl) hk
  | false => exact (h2 (ht.2 rfl)).out a w (hr.re hl rfl) hk
/-- A slot's value, said otherwise. -/
theorem g_say {l : List Oper} (t : Nat) {v : Value} (u : Value) (hl : look X.n f (.tmp t) = some v) (e : v = u) (hg : G X ops l k ((t, u) :: f) O R) : G X ops l k f O R := .mk fun a w hr hk => hg.out a w (hr.re hl e) hk
theorem gk_say (t : Nat) {v : Value} (u : Value) (hl : look X.n f (.tmp t) = some v) (e : v = u) (hg : GK X ks ((t, u) :: f) O R) : GK X ks f O R := .mk fun a w hr hk => hg.out a w (hr.re hl e) hk
theorem gk_weak {f' : Fr} {O' R' : List Fact} (hf : FSub X.n f f') (hO : O'.Sublist O) (hR : R' ⊆ R) (hg : GK X ks f' O' R') : GK X ks f O R := .mk fun a w hr hk => hg.out a w (hr.sub hf) (hk.weak hO hR)
theorem g_weak {l : List Oper} {O' R' : List Fact} (hO : O'.Sublist O) (hR : R' ⊆ R) (hg : G X ops l k f O' R') : G X ops l k f O R := .mk fun a w hr hk => hg.out a w hr (hk.weak hO hR)
/-- A fact that holds in every world of this memory. -/
theorem gk_addR (ψ : Fact) (h : ∀ w, Kn X.E X.w0 w O R → ψ.p w ∧ (∀ b, ψ.S b → b < w.heap.size) ∧ ∀ φ ∈ O, ∀ b, φ.S b → ¬ ψ.S b) (hg : GK X ks f O (ψ :: R)) : GK X ks f O R := .mk fun a w hr hk =>
  hg.out a w hr (hk.addR ψ (h w hk).1 (h w hk).2.1 (h w hk).2.2)

/-! ### loads -/
def loadV (g : Bool) (sz : Nat) (cs : List Value) (off : Nat) : Option Value :=
  bif g then (match dropO off cs with | some d => (match takeO sz d with | some l => some (.agg l.toArray) | none => none) | none => none) else cs[off]?
theorem run_loadVar_at {P : Program} {t : TypeId} {d : TD} {sz : Nat} (hd : chkD P t d = true) (hs : szIs P t sz = true) (w : World) (b o : Nat) (cs : List Value) (hc : ∀ i v, cs[i]? = some v → w.cell? ⟨b, o + i, none⟩ = some v) {off : Nat} {v : Value}
    (h : loadV (agg? d) sz cs off = some v) : (loadVar t ⟨b, o + off, none⟩).run P w = .ok v w := by
  unfold loadVar
  rw [Sem.run_bind, run_isAgg hd w]
  unfold loadV at h
  cases hg : agg? d with
  | false =>
    rw [hg] at h
    simp [load, Sem.run, hc off v h]
  | true =>
    rw [hg] at h
    simp only [cond_true] at h
    split at h
    · rename_i dd hdd
      split at h
      · rename_i l hl
        have e := Option.some.inj h
        subst e
        obtain ⟨e1, e2⟩ := dropO_eq hdd
        obtain ⟨e3, e4⟩ := takeO_eq hl
        have hlen : l.length = sz := by rw [e3, List.length_take]; omega
        have hl2 := run_loadCells_list (P := P) w ⟨b, o + off, none⟩ l (fun j v hv => by
          rw [add_lit, Nat.add_assoc]
          refine hc (off + j) v ?_
          rw [e3, e1] at hv
          rw [List.getElem?_take] at hv
          split at hv
          · rw [List.getElem?_drop] at hv; exact hv
          · cases hv)
        rw [hlen] at hl2
        simp [run_sizeOf hs w, hl2]
      · cases h
    · cases h
theorem yd_load_blk (hT : TabOk X.P X.T) {ty : Nat} {x : Operand} {g off : Nat} {cs : List Value} {Tg t sz : Nat} {d : TD} {z : List Value} {v : Value} (ho : o.op = .load ty x) (hx : look X.n f x = some (.pointer (some ⟨g, off, none⟩)))
    (hm : blk g cs Tg ∈ O) (hty : tfind X.T ty = some ⟨t, d, sz, z⟩) (hv : loadV (agg? d) sz cs off = some v) : Yd X f O R o v := fun a w hr hk => by
  have hb := hk.pO _ hm
  have hty' := tfind_ok hT hty
  have e1 := hty'.1
  simp only at e1
  subst e1
  have := run_loadVar_at hty'.2.d hty'.2.sz w g 0 cs (fun i u hu => by rw [Nat.zero_add, cell_of_row w g i cs.toArray Tg (0, 0) hb]; simpa using hu) hv
  rw [Nat.zero_add] at this
  simp [execOp, ho, hr.look hx, Instr.loadAt, Instr.sureAddr, this]
theorem yd_load_row (hT : TabOk X.P X.T) {ty : Nat} {x : Operand} {b o' off : Nat} {cs : List Value} {t sz : Nat} {d : TD} {z : List Value} {v : Value} (ho : o.op = .load ty x) (hx : look X.n f x = some (.pointer (some ⟨b, o' + off, none⟩)))
    (hm : row b o' cs ∈ R) (hty : tfind X.T ty = some ⟨t, d, sz, z⟩) (hv : loadV (agg? d) sz cs off = some v) : Yd X f O R o v := fun a w hr hk => by
  have hb : ∀ i v, cs[i]? = some v → w.cell? ⟨b, o' + i, none⟩ = some v := hk.pR _ hm
  have hty' := tfind_ok hT hty
  have e1 := hty'.1
  simp only at e1
  subst e1
  have := run_loadVar_at hty'.2.d hty'.2.sz w b o' cs hb hv
  simp [execOp, ho, hr.look hx, Instr.loadAt, Instr.sureAddr, this]
theorem yd_load_row0 (hT : TabOk X.P X.T) {ty : Nat} {x : Operand} {b o' : Nat} {cs : List Value} {t sz : Nat} {d : TD} {z : List Value} {v : Value} (ho : o.op = .load ty x) (hx : look X.n f x = some (.pointer (some ⟨b, o', none⟩)))
    (hm : row b o' cs ∈ R) (hty : tfind X.T ty = some ⟨t, d, sz, z⟩) (hv : loadV (agg? d) sz cs 0 = some v) : Yd X f O R o v :=
  yd_load_row (off := 0) hT ho hx hm hty hv
end
end Go.Proofs.Ytkdphoacniigjaa.Gx
