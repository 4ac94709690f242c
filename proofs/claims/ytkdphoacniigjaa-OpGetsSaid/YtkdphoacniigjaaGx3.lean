/- Third part: the operations that leave the memory alone, in one reckoning. -/
import Derived.Test.YtkdphoacniigjaaGx2
namespace Go.Proofs.Ytkdphoacniigjaa.Gx
open Go.RowKit Mem
set_option linter.unusedVariables false
set_option linter.unusedSimpArgs false
/-! ### lists, reckoned to the end -/
def takeO {α : Type} : Nat → List α → Option (List α)
  | 0, _ => some []
  | _ + 1, [] => none
  | n + 1, x :: r => match takeO n r with | some l => some (x :: l) | none => none
def dropO {α : Type} : Nat → List α → Option (List α)
  | 0, l => some l
  | _ + 1, [] => none
  | n + 1, _ :: r => dropO n r
def setO : List Value → Nat → Value → Option (List Value)
  | [], _, _ => none
  | _ :: r, 0, v => some (v :: r)
  | x :: r, n + 1, v => match setO r n v with | some l => some (x :: l) | none => none
def setsO : List Value → Nat → List Value → Option (List Value)
  | z, _, [] => some z
  | z, o, c :: r => match setO z o c with | some z' => setsO z' (o + 1) r | none => none
theorem takeO_eq {α : Type} : ∀ {n : Nat} {l m : List α}, takeO n l = some m → m = l.take n ∧ n ≤ l.length
  | 0, l, m, h => by injection h with h; subst h; simp
  | n + 1, [], m, h => by cases h
  | n + 1, x :: r, m, h => by
    unfold takeO at h
    split at h
    · rename_i l hl
      injection h with h
      obtain ⟨h1, h2⟩ := takeO_eq hl
      subst h
      simp [h1, h2]
    · cases h
theorem dropO_eq {α : Type} : ∀ {n : Nat} {l m : List α}, dropO n l = some m → m = l.drop n ∧ n ≤ l.length
  | 0, l, m, h => by injection h with h; subst h; simp
  | n + 1, [], m, h => by cases h
  | n + 1, x :: r, m, h => by
    obtain ⟨h1, h2⟩ := dropO_eq (n := n) (l := r) (m := m) h
    simp [h1, h2]
theorem setO_eq : ∀ {l : List Value} {n : Nat} {v : Value} {m : List Value}, setO l n v = some m → m = l.set n v ∧ n < l.length
  | [], _, _, m, h => by cases h
  | x :: r, 0, v, m, h => by injection h with h; subst h; simp
  | x :: r, n + 1, v, m, h => by
    unfold setO at h
    split at h
    · rename_i l hl
      injection h with h
      obtain ⟨h1, h2⟩ := setO_eq hl
      subst h
      simp [h1, h2]
    · cases h
/-- The cells of a part, and whether they are as many. -/
def cellsN (v : Value) (n : Nat) (g : Bool) : Option (List Value) :=
  match v with
  | .agg ⟨l⟩ => bif g && Nat.beq l.length n then some l else none
  | .tuple _ => none
  | v => bif !g && Nat.beq n 1 then some [v] else none
theorem cellsN_eq {v : Value} {n : Nat} {g : Bool} {l : List Value} (h : cellsN v n g = some l) : v.cells.toList = l ∧ l.length = n ∧ (g = true → v = .agg l.toArray) ∧ (g = false → l = [v] ∧ (∀ cs, v ≠ .agg cs) ∧ (∀ cs, v ≠ .tuple cs)) := by
  unfold cellsN at h
  split at h
  · rename_i cs
    cases hb : (g && Nat.beq cs.length n) with
    | false => rw [hb] at h; cases h
    | true =>
      rw [hb] at h
      rw [Bool.and_eq_true] at hb
      injection h with h
      subst h
      exact ⟨rfl, Nat.eq_of_beq_eq_true hb.2, fun _ => rfl, fun e => by rw [e] at hb; cases hb.1⟩
  · cases h
  · rename_i h1 h2
    cases hb : (!g && Nat.beq n 1) with
    | false => rw [hb] at h; cases h
    | true =>
      rw [hb] at h
      rw [Bool.and_eq_true] at hb
      injection h with h
      subst h
      have hn : n = 1 := Nat.eq_of_beq_eq_true hb.2
      refine ⟨?_, by simp [hn], (fun e => by rw [e] at hb; cases hb.1), fun _ => ⟨rfl, fun cs => (by cases cs; exact h1 _), h2⟩⟩
      cases v <;> first | rfl | exact absurd rfl (h2 _) | (rename_i cs; cases cs; exact absurd rfl (h1 _))
def fillL (fs : List (Nat × Nat × Bool)) : List Value → List (Nat × Value) → Option (List Value)
  | z, [] => some z
  | z, (i, v) :: r =>
    match fs[i]? with
    | some (o, n, g) => (match cellsN v n g with
      | some cs => (match setsO z o cs with | some z' => fillL fs z' r | none => none)
      | none => none)
    | none => none
theorem sets_fold : ∀ (cs : List Value) (k o : Nat) (A : Array Value) (z : List Value), setsO A.toList (o + k) cs = some z → (cs.zipIdx k).foldl (fun a (p : Value × Nat) => a.setIfInBounds (o + p.2) p.1) A = z.toArray ∧ o + k + cs.length ≤ max A.size (o + k)
  | [], k, o, A, z, h => by injection h with h; subst h; simp; omega
  | c :: r, k, o, A, z, h => by
    unfold setsO at h
    split at h
    · rename_i z' hz
      obtain ⟨h1, h2⟩ := setO_eq hz
      have e : (A.setIfInBounds (o + k) c).toList = z' := by rw [h1]; simp
      rw [← e, Nat.add_assoc] at h
      obtain ⟨i1, i2⟩ := sets_fold r (k + 1) o _ z h
      refine ⟨by simpa [List.zipIdx_cons] using i1, ?_⟩
      simp at i2 h2 ⊢
      omega
    · cases h
theorem setsO_len : ∀ {cs : List Value} {z z' : List Value} {o : Nat}, setsO z o cs = some z' → z'.length = z.length ∧ (cs ≠ [] → o + cs.length ≤ z.length)
  | [], z, z', o, h => by injection h with h; subst h; simp
  | c :: r, z, z', o, h => by
    unfold setsO at h
    split at h
    · rename_i y hy
      obtain ⟨h1, h2⟩ := setO_eq hy
      obtain ⟨h3, h4⟩ := setsO_len h
      have hl : y.length = z.length := by rw [h1]; simp
      refine ⟨by omega, fun _ => ?_⟩
      cases r with
      | nil => simp; omega
      | cons a r => have := h4 (by simp); simp at this ⊢; omega
    · cases h
theorem fill_eq {P : Program} {fs : List (Nat × Nat × Bool)} {place : Nat → Option (Nat × Nat)} (hp : ∀ i o n g, fs[i]? = some (o, n, g) → place i = some (o, n) ∧ n ≠ 0) : ∀ {l : List (Nat × Value)} {z z' : List Value}, fillL fs z l = some z' → Instr.fill place z.toArray l = some z'.toArray
  | [], z, z', h => by injection h with h; subst h; rfl
  | (i, v) :: r, z, z', h => by
    unfold fillL at h
    split at h
    · rename_i o n g hf
      split at h
      · rename_i cs hc
        split at h
        · rename_i y hy
          obtain ⟨h1, h2, _⟩ := cellsN_eq hc
          obtain ⟨h3, hn⟩ := hp i o n g hf
          obtain ⟨h4, h5⟩ := setsO_len hy
          have hcs : cs ≠ [] := fun e => by rw [e] at h2; exact hn h2.symm
          have h5 := h5 hcs
          have hsz : v.cells.size = n := by rw [← Array.length_toList, h1, h2]
          have hfold := (sets_fold cs 0 o z.toArray y (by simpa using hy)).1
          unfold Instr.fill
          simp only [h3]
          have hno : ¬ (v.cells.size ≠ n ∨ o + v.cells.size > z.toArray.size) := by
            rw [hsz]; simp; omega
          have e : v.cells.zipIdx.foldl (fun cs (x : Value × Nat) => cs.setIfInBounds (o + x.2) x.1) z.toArray = y.toArray := by
            rw [← hfold, ← h1, ← Array.foldl_toList]
            simp
          simp only [Bool.or_eq_true, decide_eq_true_eq] at *
          rw [if_neg hno]
          exact (congrArg (fun a => Instr.fill place a r) e).trans (fill_eq (P := P) hp h)
        · cases h
      · cases h
    · cases h
def lookAll (n : Nat) (f : Fr) : List (Nat × Operand) → Option (List (Nat × Value))
  | [] => some []
  | (i, x) :: r => match look n f x, lookAll n f r with | some v, some l => some ((i, v) :: l) | _, _ => none
theorem lookAll_eq {n : Nat} {a : Act} {f : Fr} (hr : Rel n a f) : ∀ {l : List (Nat × Operand)} {m : List (Nat × Value)}, lookAll n f l = some m → l.map (fun p => (p.1, a.eval p.2)) = m
  | [], m, h => by injection h
  | (i, x) :: r, m, h => by
    unfold lookAll at h
    split at h
    · rename_i v l hv hl
      injection h with h
      subst h
      rw [List.map_cons, lookAll_eq hr hl, hr.look hv]
    · cases h
def lookL (n : Nat) (f : Fr) : List Operand → Option (List Value)
  | [] => some []
  | x :: r => match look n f x, lookL n f r with | some v, some l => some (v :: l) | _, _ => none
theorem lookL_eq {n : Nat} {a : Act} {f : Fr} (hr : Rel n a f) : ∀ {l : List Operand} {m : List Value}, lookL n f l = some m → l.map a.eval = m
  | [], m, h => by injection h
  | x :: r, m, h => by
    unfold lookL at h
    split at h
    · rename_i v l hv hl
      injection h with h
      subst h
      rw [List.map_cons, lookL_eq hr hl, hr.look hv]
    · cases h
theorem run_places {P : Program} : ∀ {os : List (Nat × Nat × Bool)} {fs : List Field}, offOk P os fs = true → ∀ w : World, (fs.mapM fun f => (do pure (f.offset, ← sizeOf f.type) : Sem (Nat × Nat))).run P w = .ok (os.map fun p => (p.1, p.2.1)) w
  | [], [], _, w => rfl
  | [], _ :: _, h, w => by simp [offOk] at h
  | _ :: _, [], h, w => by simp [offOk] at h
  | (o, n, g) :: os, f :: fs, h, w => by
    unfold offOk at h
    rw [Bool.and_eq_true, Bool.and_eq_true, Bool.and_eq_true, Bool.and_eq_true, Bool.and_eq_true] at h
    obtain ⟨⟨⟨h1, h2, h3⟩, h4⟩, h5⟩ := h
    have ih := run_places h5 w
    rw [List.mapM_cons]
    simp only [Sem.run_bind, run_sizeOf h2, Result.andThen_ok, Sem.run_pure, ih]
    rw [Nat.eq_of_beq_eq_true h1]
    rfl
section
variable {P : Program} {T : Tab} (hT : TabOk P T)
def buildV (T : Tab) (t : Nat) (l : List (Nat × Value)) : Option Value :=
  match tfind T t with
  | some ⟨_, .struct fs, _, z⟩ => (match fillL fs z l with | some cs => some (.agg cs.toArray) | none => none)
  | _ => none
include hT in
theorem buildV_sound {t : Nat} {l : Array (Nat × Value)} {v : Value} (h : buildV T t l.toList = some v) (w : World) : (Instr.build t l).run P w = .ok v w := by
  unfold buildV at h
  split at h
  · rename_i tt fs s z hf
    obtain ⟨ht, hk⟩ := tfind_ok hT hf
    simp only at ht
    subst ht
    obtain ⟨fields, hu, hofs⟩ := chk_struct hk.d
    split at h
    · rename_i cs hcs
      have e := Option.some.inj h
      subst e
      have hz := hk.z
      cases hi : P.info? tt with
      | none => simp [hi] at hz
      | some inf =>
        cases hz0 : inf.zero with
        | none => simp [hi, hz0] at hz
        | some zv =>
          simp only [hi, hz0, Option.bind_some, Option.map_some] at hz
          have hz' : zv.cells = z.toArray := by injection hz
          have hzv : (zeroValue tt).run P w = .ok zv w := by simp [zeroValue, typeInfo, hi, hz0]
          have hpl : (fields.mapM fun f => (do pure (f.offset, ← sizeOf f.type) : Sem (Nat × Nat))).run P w = .ok (fs.map fun p => (p.1, p.2.1)).toArray w := by
            rw [Array.mapM_eq_mapM_toList, Sem.run_map, run_places hofs w]
            rfl
          have hfill := fill_eq (P := P) (place := fun i => ((fs.map fun p => (p.1, p.2.1)).toArray)[i]?) (fun i o n g h => by
            obtain ⟨f, _, _, _, h4, _⟩ := offOk_get hofs h
            exact ⟨by simp [h], h4⟩) hcs
          unfold Instr.build
          simp only [Sem.run_bind, hzv, Result.andThen_ok, run_underlying hu, hpl, hz', hfill, Sem.run_pure]
    · cases h
  · cases h
/-- A field of a struct that is at hand. -/
def partV (T : Tab) (t : Nat) (x : Value) (i : Nat) : Option Value :=
  match tfind T t, x with
  | some ⟨_, .struct os, _, _⟩, .agg cs => (match os[i]? with
    | some (o, n, true) => (match dropO o cs.toList with | some d => (match takeO n d with | some l => some (.agg l.toArray) | none => none) | none => none)
    | some (o, _, false) => cs.toList[o]?
    | none => none)
  | _, _ => none
include hT in
theorem partV_sound {t : Nat} {x v : Value} {i : Nat} (h : partV T t x i = some v) (w : World) : (Instr.field t x i).run P w = .ok v w := by
  unfold partV at h
  split at h
  · rename_i tt os s z cs hf
    obtain ⟨ht, hk⟩ := tfind_ok hT hf
    simp only at ht
    subst ht
    obtain ⟨fs, hu, hofs⟩ := chk_struct hk.d
    split at h
    · rename_i o n hd
      obtain ⟨f, h1, h2, h3, h4, h5, h6⟩ := offOk_get hofs hd
      have h1' : fs[i]? = some f := by simpa using h1
      split at h
      · rename_i d hdd
        split at h
        · rename_i l hl
          have e := Option.some.inj h
          subst e
          obtain ⟨e1, e2⟩ := dropO_eq hdd
          obtain ⟨e3, e4⟩ := takeO_eq hl
          have hx : cs.extract o (o + n) = l.toArray := by
            apply Array.ext'
            rw [e3, e1]
            simp [List.extract_eq_take_drop]
          simp [Instr.field, run_underlying hu, h1', asAgg, part, run_isAggT h6, h5, run_sizeOf h3, h2, hx]
        · cases h
      · cases h
    · rename_i o n hd
      obtain ⟨f, h1, h2, h3, h4, h5, h6⟩ := offOk_get hofs hd
      have h1' : fs[i]? = some f := by simpa using h1
      have h' : cs[o]? = some v := by simpa using h
      simp [Instr.field, run_underlying hu, h1', asAgg, part, run_isAggT h6, h5, h2, h']
    · cases h
  · cases h
noncomputable def ev (T : Tab) (nw : Bool) (n : Nat) (f : Fr) (op : Op) : Option (Value × Prop) :=
  match op with
  | .move x => (match look n f x with | some v => some (v, True) | none => none)
  | .assign x => (match look n f x with | some v => some (v, True) | none => none)
  | .pick c a b => (match look n f c with
    | some (.bool true) => (match look n f a with | some v => some (v, True) | none => none)
    | some (.bool false) => (match look n f b with | some v => some (v, True) | none => none)
    | _ => none)
  | .binOp op t x y _ => (match look n f x, look n f y with | some a, some b => evBin T nw op t a b | _, _ => none)
  | .unOp .not _ x => (match look n f x with | some (.bool b) => some (.bool (!b), True) | _ => none)
  | .convert s d x => (match look n f x with | some v => convV T nw s d v | none => none)
  | .fieldAddr t x i => (match look n f x with | some v => (match fieldV T t v i with | some u => some (u, True) | none => none) | none => none)
  | .field t x i => (match look n f x with | some v => (match partV T t v i with | some u => some (u, True) | none => none) | none => none)
  | .indexAddr t x i => (match look n f x, look n f i with | some v, some k => indexV T t v k | _, _ => none)
  | .extract x i => (match look n f x with | some (.tuple vs) => (match vs.toList[i]? with | some v => some (v, True) | none => none) | _ => none)
  | .build t ps => (match lookAll n f ps.toList with | some l => (match buildV T t l with | some v => some (v, True) | none => none) | none => none)
  | .nilCheck x => (match look n f x with | some (.pointer (some a)) => some (.pointer (some a), True) | _ => none)
  | .call c => (match c.callee, lookL n f c.args.toList, c.argTypes.toList with
    | .builtin .len, some [x], [t] => (match lenV T t x with | some v => some (v, True) | none => none)
    | _, _, _ => none)
  | _ => none
include hT in
theorem ev_sound {nw : Bool} {n : Nat} {a : Act} {f : Fr} (hr : Rel n a f) {o : Oper} {v : Value} {p : Prop} (h : ev T nw n f o.op = some (v, p)) (hp : p) (w : World) : (execOp a.eval o).run P w = .ok (.value v) w := by
  obtain ⟨dst, op, type, pos, after, guard⟩ := o
  simp only at h
  unfold ev at h
  split at h
  · split at h
    · rename_i x u hx; injection h with h; injection h with h1 h2; subst h1
      simp [execOp, hr.look hx]
    · cases h
  · split at h
    · rename_i x u hx; injection h with h; injection h with h1 h2; subst h1
      simp [execOp, hr.look hx]
    · cases h
  · split at h
    · rename_i c x y hc
      split at h
      · rename_i u hx; injection h with h; injection h with h1 h2; subst h1
        simp [execOp, hr.look hc, hr.look hx, asBool]
      · cases h
    · rename_i c x y hc
      split at h
      · rename_i u hx; injection h with h; injection h with h1 h2; subst h1
        simp [execOp, hr.look hc, hr.look hx, asBool]
      · cases h
    · cases h
  · split at h
    · rename_i b t x y yt _ _ u u' hx hy
      have := evBin_sound hT h hp x y w
      simp only [execOp, hr.look hx, hr.look hy, Sem.run_bind, Sem.run_pure] at this ⊢
      rw [this]
      rfl
    · cases h
  · split at h
    · rename_i t x b hx; injection h with h; injection h with h1 h2; subst h1
      simp [execOp, hr.look hx, Op.unary]
    · cases h
  · split at h
    · rename_i s d x u hx
      have := convV_sound hT h hp w
      simp [execOp, hr.look hx, this]
    · cases h
  · split at h
    · rename_i t x i u hx
      split at h
      · rename_i q hq; injection h with h; injection h with h1 h2; subst h1
        have := fieldV_sound hT hq w
        simp [execOp, hr.look hx, this]
      · cases h
    · cases h
  · split at h
    · rename_i t x i u hx
      split at h
      · rename_i q hq; injection h with h; injection h with h1 h2; subst h1
        have := partV_sound hT hq w
        simp [execOp, hr.look hx, this]
      · cases h
    · cases h
  · split at h
    · rename_i t x i u k hx hi
      have := indexV_sound hT h hp w
      simp [execOp, hr.look hx, hr.look hi, this]
    · cases h
  · split at h
    · rename_i x i _ vs hx
      split at h
      · rename_i q hq; injection h with h; injection h with h1 h2; subst h1
        have hq' : vs[i]? = some q := by simpa using hq
        simp [execOp, hr.look hx, Instr.extract, hq']
      · cases h
    · cases h
  · split at h
    · rename_i t ps _ l hl
      split at h
      · rename_i q hq; injection h with h; injection h with h1 h2; subst h1
        have e : (ps.map fun x => (x.1, a.eval x.2)).toList = l := by rw [← lookAll_eq hr hl]; simp
        have := buildV_sound (P := P) hT (l := ps.map fun x => (x.1, a.eval x.2)) (by rw [e]; exact hq) w
        simp [execOp, this]
      · cases h
    · cases h
  · split at h
    · rename_i x q hx; injection h with h; injection h with h1 h2; subst h1
      simp [execOp, hr.look hx]
    · cases h
  · split at h
    · rename_i c _ _ _ x t hc hl ht
      split at h
      · rename_i q hq; injection h with h; injection h with h1 h2; subst h1
        have := fun ty => lenV_sound hT hq ty w
        have e1 : c.args.map a.eval = #[x] := by apply Array.ext'; simpa using lookL_eq hr hl
        have e2 : c.argTypes = #[t] := by apply Array.ext'; simpa using ht
        simp [execOp, resolve, hc, e1, e2, invoke, builtin, this]
      · cases h
    · cases h
  · cases h
end
end Go.Proofs.Ytkdphoacniigjaa.Gx
