/- Sixth part: slices: elements, literals, append, reslicing. -/
import Derived.Test.YtkdphoacniigjaaGx5
namespace Go.Proofs.Ytkdphoacniigjaa.Gx
open Go.RowKit Mem
set_option linter.unusedVariables false
set_option linter.unusedSimpArgs false
section
variable {E : List Nat} {w0 w w' : World} {O R O' : List Fact}
/-- A fact of one's own more, that is not new. -/
theorem Kn.addO (h : Kn E w0 w O R) (ψ : Fact) (hp : ψ.p w) (hn : ∀ b, ¬ ψ.S b) : Kn E w0 w (ψ :: O) R where
  os := h.os
  tape := h.tape
  output := h.output
  size := h.size
  block := h.block
  ownS φ hφ b hS := by
    rcases List.mem_cons.1 hφ with rfl | h1
    · exact absurd hS (hn b)
    · exact h.ownS φ h1 b hS
  ltO φ hφ b hS := by
    rcases List.mem_cons.1 hφ with rfl | h1
    · exact absurd hS (hn b)
    · exact h.ltO φ h1 b hS
  ltR := h.ltR
  pO φ hφ := by
    rcases List.mem_cons.1 hφ with rfl | h1
    · exact hp
    · exact h.pO φ h1
  pR := h.pR
  disO := List.pairwise_cons.2 ⟨fun χ _ b hb => absurd hb (hn b), h.disO⟩
  disR φ hφ ψ' hψ b h1 h2 := by
    rcases List.mem_cons.1 hφ with rfl | h3
    · exact absurd h1 (hn b)
    · exact h.disR φ h3 ψ' hψ b h1 h2
/-- A slice of one's own has grown. -/
theorem Kn.grew {α β : Type} [Inhabited α] [Inhabited β] {base base' : Nat} {e e' : TypeId} {sz sz' : Nat} {v v' : Value} {enc : α → Nat → Value} {L : List α} {enc' : β → Nat → Value} {L' : List β} (h : Kn E w0 w O R) (hg : Grew w w' v v') (ho : OwnL w' base' e' sz' v' enc' L')
    (hu : Upd (own base e sz v enc L) (own base' e' sz' v' enc' L') O O') : Kn E w0 w' O' R :=
  h.upd hu hg.1.os hg.1.tape hg.1.output hg.1.size (fun b hb hne => hg.1.block b hb (fun e => hne e.symm)) ho (fun b hb => by
    have hb' : v'.ownBlock = some b := hb
    refine ⟨?_, (OwnL.lt' ho b hb').2⟩
    rcases hg.2 with h1 | ⟨k, h1, h2⟩
    · exact .inl (by rw [h1] at hb'; exact hb')
    · rw [h1] at hb'
      injection hb' with hb'
      subst hb'
      exact .inr h2)
/-- An argument's slice. -/
theorem Kn.argR {α : Type} [Inhabited α] {A : Option Addr} {sz : Nat} {enc : α → Nat → Value} {L : List α} (h : Kn E w0 w0 O R) (hs : Sl w0 A sz enc L) (hsz : 0 < sz) (hO : ∀ φ ∈ O, ∀ b, φ.S b → ¬ (sl A sz enc L).S b) : Kn E w0 w0 O (sl A sz enc L :: R) :=
  h.addR _ hs (fun b hb => by
    obtain ⟨hn, a, ha, hab⟩ := hb
    obtain ⟨b', off, e1, hc⟩ := hs hn
    rw [e1] at ha
    injection ha with ha
    have := lt_of_cell (hc 0 hn 0 hsz)
    rw [← hab, ← ha]
    exact this) hO
end
section
variable {X : Cx} {f : Fr} {O R : List Fact} {ks k : List KI} {ops rest : List Oper} {o : Oper} {N : Fr → List Fact → List Fact → Prop}
def encF {α : Type} (enc : α → Nat → Value) (y : α) : Nat → Nat → List Value
  | _, 0 => []
  | j, n + 1 => enc y j :: encF enc y (j + 1) n
theorem encF_get {α : Type} (enc : α → Nat → Value) (y : α) : ∀ (n j i : Nat) (v : Value), (encF enc y j n)[i]? = some v → i < n ∧ v = enc y (j + i)
  | 0, j, i, v, h => by simp [encF] at h
  | n + 1, j, 0, v, h => by simp [encF] at h; exact ⟨by omega, h.symm⟩
  | n + 1, j, i + 1, v, h => by
    simp [encF] at h
    obtain ⟨h1, h2⟩ := encF_get enc y n (j + 1) i v h
    exact ⟨by omega, by rw [h2, Nat.add_assoc, Nat.add_comm 1 i]⟩
theorem mv_index_sl {dd : Nat} (hd : o.dst = some dd) (hT : TabOk X.P X.T) {α : Type} [Inhabited α] {enc : α → Nat → Value} {L : List α} {A : Option Addr} {m c ty e sz t s : Nat} {z : List Value} {x i : Operand} {ki : IntKind} {iv : Int} (j : Nat) (ho : o.op = .indexAddr ty x i)
    (hx : look X.n f x = some (.slice A m c)) (hi : look X.n f i = some (.int ki iv)) (hty : tfind X.T ty = some ⟨t, .slice e sz, s, z⟩) (hm : sl A sz enc L ∈ R) (hj : iv = j) (hlt : j < L.length) (hml : m = L.length) (hsz : 0 < sz)
    (hg : ∀ b off y, L[j]? = some y → N ((dd, (.pointer (some ⟨b, off, none⟩))) :: f) O (row b off (encF enc y 0 sz) :: R)) : Mv X f O R o N := fun a w hr hk K Q hK => by
  unfold Oper.wp
  obtain ⟨b, off, y, e1, hy, _, _, hc⟩ := Sl.at_ (hk.pR _ hm) j hlt
  have hv : indexV X.T ty (.slice A m c) (.int ki iv) = some (.pointer (some ⟨b, off + iv.toNat * sz, none⟩), 0 ≤ iv ∧ iv < (m : Int)) := by
    unfold indexV
    rw [hty, e1]
  have := indexV_sound hT hv ⟨by omega, by omega⟩ w
  have hrun : (execOp a.eval o).run X.P w = .ok (.value (.pointer (some ⟨b, off + j * sz, none⟩))) w := by
    have e2 : iv.toNat = j := by omega
    rw [e2] at this
    simp [execOp, ho, hr.look hx, hr.look hi, this]
  rw [hrun]
  refine hK _ _ _ _ _ (hg b (off + j * sz) y hy) (hr.put1 hd _) (hk.addR _ ?_ (fun b' hb => ?_) (fun φ hφ b' hb hb' => ?_))
  · intro i v hv
    obtain ⟨h2, h3⟩ := encF_get enc y sz 0 i v hv
    rw [h3, Nat.zero_add]
    exact hc i h2
  · have : b' = b := hb
    subst this
    exact lt_of_cell (hc 0 hsz)
  · have : b' = b := hb'
    subst this
    exact hk.disR φ hφ _ hm b' hb ⟨by omega, _, e1, rfl⟩
/-! ### a literal -/
def rep : Nat → List Value → List Value
  | 0, _ => []
  | n + 1, z => rep n z ++ z
def segs (sz : Nat) (g : Bool) : Nat → Nat → List (Nat × Nat × Bool)
  | _, 0 => []
  | o, n + 1 => (o, sz, g) :: segs sz g (o + sz) n
theorem segs_get (sz : Nat) (g : Bool) : ∀ (n o i a b : Nat) (c : Bool), (segs sz g o n)[i]? = some (a, b, c) → a = o + i * sz ∧ b = sz
  | 0, o, i, a, b, c, h => by simp [segs] at h
  | n + 1, o, 0, a, b, c, h => by simp [segs] at h; simp [h.1, h.2.1]
  | n + 1, o, i + 1, a, b, c, h => by
    simp [segs] at h
    obtain ⟨h1, h2⟩ := segs_get sz g n (o + sz) i a b c h
    refine ⟨by rw [h1, Nat.add_mul]; omega, h2⟩
theorem rep_eq (z : Array Value) (hz : 0 < z.size) : ∀ n, ((List.range (n * z.size)).map fun i => z[i % z.size]!) = rep n z.toList
  | 0 => by simp [rep]
  | n + 1 => by
    rw [Nat.add_mul, Nat.one_mul, List.range_add, List.map_append, rep_eq z hz n, List.map_map]
    refine congrArg (rep n z.toList ++ ·) (a₂ := z.toList) ?_
    apply List.ext_getElem?
    intro i
    by_cases hi : i < z.size
    · simp [List.getElem?_range hi, hi, Nat.add_mod, Nat.mul_mod_left, Nat.mod_eq_of_lt hi]
    · rw [List.getElem?_eq_none (by simp; omega), List.getElem?_eq_none (by simp; omega)]
theorem mv_buildSlice {dd : Nat} (hd : o.dst = some dd) (hT : TabOk X.P X.T) {ty len e sz t s t' s' : Nat} {z z' cs : List Value} {d : TD} {ps : Array (Nat × Operand)} {l : List (Nat × Value)} (ho : o.op = .buildSlice ty len ps) (hl : lookAll X.n f ps.toList = some l)
    (hty : tfind X.T ty = some ⟨t, .slice e sz, s, z⟩) (hte : tfind X.T e = some ⟨t', d, s', z'⟩) (hn : Nat.ble (len * sz) 1000 = true) (hsz : Nat.blt 0 sz = true) (hzl : Nat.beq z'.length sz = true) (hf : fillL (segs sz (agg? d) 0 len) (rep len z') l = some cs)
    (hg : ∀ g, N ((dd, (.slice (some ⟨g, 0, none⟩) len len)) :: f) (blk g cs e :: O) R) : Mv X f O R o N := fun a w hr hk K Q hK => by
  unfold Oper.wp
  obtain ⟨ht, hk1⟩ := tfind_ok hT hty
  obtain ⟨hte1, hk2⟩ := tfind_ok hT hte
  simp only at ht hte1
  subst ht
  subst hte1
  obtain ⟨hu, hes⟩ := chk_slice hk1.d
  have hss : s' = sz := by
    obtain ⟨i1, h2, h3⟩ := szIs_get hes
    obtain ⟨i2, h4, h5⟩ := szIs_get hk2.sz
    rw [h2] at h4
    injection h4 with h4
    have h5' : i2.size = s' := h5
    rw [← h5', ← h3, h4]
  subst hss
  have hz := hk2.z
  have hn' := Nat.le_of_ble_eq_true hn
  have hsz' : 0 < s' := Nat.le_of_ble_eq_true hsz
  cases hi : X.P.info? t' with
  | none => simp [hi] at hz
  | some inf =>
    cases hz0 : inf.zero with
    | none => simp [hi, hz0] at hz
    | some zv =>
      simp only [hi, hz0, Option.bind_some, Option.map_some] at hz
      have hz' : zv.cells = z'.toArray := by injection hz
      by_cases hlen : len = 0
      · subst hlen
        have hcs : cs = [] ∧ l = [] := by
          cases l with
          | nil => injection hf with hf; exact ⟨hf.symm, rfl⟩
          | cons q r => obtain ⟨i, v⟩ := q; simp [fillL, segs] at hf
        have hps : ps = #[] := by
          have := lookAll_eq hr hl
          rw [hcs.2] at this
          apply Array.ext'
          simpa using this
        have hrun : (execOp a.eval o).run X.P w = .ok (.value (.slice (some ⟨w.heap.size, 0, none⟩) 0 0)) (w.alloc (.cells cs.toArray t')) := by
          simp [execOp, ho, Instr.buildSlice, run_underlying hu, run_sizeOf hes w, hps, Instr.fill, newRow, newObj, Sem.run, hcs.1]
          congr 1
          simp
        rw [hrun]
        exact hK _ _ _ _ _ (hg _) (hr.put1 hd _) (hk.alloc cs t')
      · have hzs : z'.length = s' := Nat.eq_of_beq_eq_true hzl
        have hrun : (execOp a.eval o).run X.P w = .ok (.value (.slice (some ⟨w.heap.size, 0, none⟩) len len)) (w.alloc (.cells cs.toArray t')) := by
          have e : (ps.map fun x => (x.1, a.eval x.2)).toList = l := by rw [← lookAll_eq hr hl]; simp
          have hrep := rep_eq z'.toArray (by simp; omega) len
          have hfill := fill_eq (P := X.P) (place := fun i => some (i * s', s')) (fun i o n g h => by
            obtain ⟨h2, h3⟩ := segs_get _ _ _ _ _ _ _ _ h
            rw [h2, h3, Nat.zero_add]
            exact ⟨rfl, by omega⟩) hf
          have hne : ¬ len * s' = 0 := by
            intro e; rcases Nat.mul_eq_zero.1 e with h | h <;> omega
          have hbig : ¬ len * s' > 2 ^ 24 := by omega
          have hz2 : (zeroValue t').run X.P w = .ok zv w := by simp [zeroValue, typeInfo, hi, hz0]
          have harr : ((Array.range (len * s')).map fun i => (z'.toArray)[i % z'.toArray.size]!) = (rep len z').toArray := by
            apply Array.ext'
            rw [Array.toList_map, Array.toList_range]
            simp only [List.size_toArray, hzs] at hrep ⊢
            exact hrep
          simp only [execOp, ho, Instr.buildSlice, Sem.run_bind, run_underlying hu, Result.andThen_ok, run_sizeOf hes w]
          rw [if_neg hbig, if_neg hne]
          simp only [Sem.run_bind, Sem.run_pure, Result.andThen_ok, hz2, hz', harr, e, hfill]
          rfl
        rw [hrun]
        exact hK _ _ _ _ _ (hg _) (hr.put1 hd _) (hk.alloc cs t')
/-! ### append -/
/-- Where the elements behind lie: a slice's, or a block's that was made for them. -/
def Src (X : Cx) (O R : List Fact) {α : Type} [Inhabited α] (A : Option Addr) (sz : Nat) (enc : α → Nat → Value) (M : List α) : Prop := ∀ w, Kn X.E X.w0 w O R → Sl w A sz enc M
theorem src_R {α : Type} [Inhabited α] {A : Option Addr} {sz : Nat} {enc : α → Nat → Value} {M : List α} (h : sl A sz enc M ∈ R) : Src X O R A sz enc M := fun w hk => hk.pR _ h
theorem src_O {α : Type} [Inhabited α] {A : Option Addr} {sz : Nat} {enc : α → Nat → Value} {M : List α} (h : sl A sz enc M ∈ O) : Src X O R A sz enc M := fun w hk => hk.pO _ h
theorem src_nil {α : Type} [Inhabited α] {A : Option Addr} {sz : Nat} {enc : α → Nat → Value} : Src X O R A sz enc ([] : List α) := fun w hk => Sl.nil
def flatF {α : Type} (sz : Nat) (enc : α → Nat → Value) : List α → List Value
  | [] => []
  | y :: r => encF enc y 0 sz ++ flatF sz enc r
theorem encF_len {α : Type} (enc : α → Nat → Value) (y : α) : ∀ (n j : Nat), (encF enc y j n).length = n
  | 0, j => rfl
  | n + 1, j => by simp [encF, encF_len enc y n (j + 1)]
theorem flatF_get {α : Type} [Inhabited α] (sz : Nat) (enc : α → Nat → Value) : ∀ (M : List α) (i j : Nat) (y : α), M[i]? = some y → j < sz → (flatF sz enc M)[i * sz + j]? = some (enc y j)
  | [], i, j, y, h, _ => by simp at h
  | x :: r, 0, j, y, h, hj => by
    simp at h
    subst h
    unfold flatF
    rw [Nat.zero_mul, Nat.zero_add, List.getElem?_append_left (by rw [encF_len]; exact hj)]
    cases hq : (encF enc x 0 sz)[j]? with
    | none => rw [List.getElem?_eq_none_iff, encF_len] at hq; omega
    | some v => rw [(encF_get enc x sz 0 j v hq).2, Nat.zero_add]
  | x :: r, i + 1, j, y, h, hj => by
    unfold flatF
    rw [List.getElem?_append_right (by rw [encF_len, Nat.add_mul]; omega), encF_len, show (i + 1) * sz + j - sz = i * sz + j by rw [Nat.add_mul]; omega]
    exact flatF_get sz enc r i j y (by simpa using h) hj
theorem src_blk {α : Type} [Inhabited α] {g T : Nat} {cs : List Value} {sz : Nat} {enc : α → Nat → Value} {M : List α} (h : blk g cs T ∈ O) (he : cs = flatF sz enc M) : Src X O R (some ⟨g, 0, none⟩) sz enc M := fun w hk hn => by
  have hb : w.heap[g]? = some (.cells cs.toArray T (0, 0)) := hk.pO _ h
  refine ⟨g, 0, rfl, fun i hi j hj => ?_⟩
  have hy : M[i]? = some M[i] := List.getElem?_eq_getElem hi
  rw [Nat.zero_add, cell_of_row w g _ cs.toArray T (0, 0) hb, LF_at hy, he]
  simpa using flatF_get sz enc M i j _ hy hj
theorem mv_append {dd : Nat} (hd : o.dst = some dd) {α : Type} [Inhabited α] {enc : α → Nat → Value} {L : List α} (M : List α) {c : Call} {v : Value} {A : Option Addr} {m cc t e sz bytes base : Nat} {OO : Value → List Fact} (ho : o.op = .call c) (hc : c.callee = .builtin .append) (ha : lookL X.n f c.args.toList = some [v, .slice A m cc]) (hat : c.argTypes.toList = [t, t])
    (hE : Elt X.P t e sz bytes) (hu : ∀ v', Upd (own base e sz v enc L) (own base e sz v' enc (L ++ M)) O (OO v')) (hs : Src X O R A sz enc M) (hm : m = M.length) (h1 : ∀ x j, (enc x j).oneCell' = true) (h63 : L.length + M.length ≤ maxLen) (hbytes : (L.length + M.length) * bytes ≤ 140737488355328) (hbase : base ≤ X.w0.heap.size)
    (hg : ∀ v', N ((dd, v') :: f) (OO v') R) : Mv X f O R o N := fun a w hr hk K Q hK => by
  have hargs := lookL_eq hr ha
  obtain ⟨ca, args, tys⟩ := c
  obtain ⟨args⟩ := args
  obtain ⟨tys⟩ := tys
  simp only at hc hat hargs
  subst hc
  match args, hargs with
  | [s, x], hargs =>
    simp at hargs
    obtain ⟨e1, e2⟩ := hargs
    subst hat
    have hown : OwnL w base e sz v enc L := hk.pO _ (hu v).mem
    exact wp_append_sl w s x t ho hE base enc v L e1 hown A m cc M e2 hm (hs w hk) h1 h63 hbytes (Nat.le_trans hbase hk.size) fun v' w' h2 h3 => hK _ _ _ _ _ (hg v') (hr.put1 hd _) (Kn.grew hk h3 h2 (hu v'))
  | [], hargs => simp at hargs
  | [_], hargs => simp at hargs
  | _ :: _ :: _ :: _, hargs => simp at hargs
theorem gk_own (base e sz : Nat) {α : Type} [Inhabited α] (enc : α → Nat → Value) (hg : GK X ks f (own base e sz (.slice none 0 0) enc ([] : List α) :: O) R) : GK X ks f O R := .mk fun a w hr hk =>
  hg.out a w hr (hk.addO _ OwnL.nil (fun b hb => by cases hb))
theorem g_own (base e sz : Nat) {α : Type} [Inhabited α] (enc : α → Nat → Value) {l : List Oper} (hg : G X ops l k f (own base e sz (.slice none 0 0) enc ([] : List α) :: O) R) : G X ops l k f O R := .mk fun a w hr hk =>
  hg.out a w hr (hk.addO _ OwnL.nil (fun b hb => by cases hb))
/-- A slice of one's own, looked at as a slice. -/
theorem Kn.ownSl {E : List Nat} {w0 w : World} {α : Type} [Inhabited α] {base e sz : Nat} {v : Value} {enc : α → Nat → Value} {L : List α} (hk : Kn E w0 w O R) (h : own base e sz v enc L ∈ O) :
    ∃ A c, v = .slice A L.length c ∧ Sl w A sz enc L ∧ L.length ≤ c ∧ c ≤ maxLen ∧ (A = none → c = 0) ∧ (∀ a, A = some a → base ≤ a.block ∧ a.block < w.heap.size) := OwnL.sl (hk.pO _ h)
end
end Go.Proofs.Ytkdphoacniigjaa.Gx
