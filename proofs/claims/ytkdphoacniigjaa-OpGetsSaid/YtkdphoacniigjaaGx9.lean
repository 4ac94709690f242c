/- Ninth part: structs that are compared; make; reslicing. -/
import Derived.Test.YtkdphoacniigjaaGx8
import Derived.Laws.StructEq
import Derived.Laws.MakeOwn
namespace Go.Proofs.Ytkdphoacniigjaa.Gx
open Go.RowKit Mem
set_option linter.unusedVariables false
set_option linter.unusedSimpArgs false
/-! ### structs of integers, compared -/
def szOf (P : Program) (t : Nat) : Nat := match P.info? t with | some i => i.size | none => 0
def flatQ (P : Program) (p : Nat → Nat → Bool) : List Field → Nat → Nat → Bool
  | [], o, n => Nat.beq o n
  | f :: r, o, n => Nat.beq f.offset o && (f.name != "_") && szIs P f.type (szOf P f.type) && p f.type (szOf P f.type) && flatQ P p r (o + szOf P f.type) n
def flatI (P : Program) : Nat → Nat → Nat → Bool
  | 0, _, _ => false
  | d + 1, t, n => match P.underlying t with
    | some (.int _) => Nat.beq n 1
    | some (.struct fs) => !(P.stoodInHeld t) && flatQ P (flatI P d) fs.toList 0 n
    | _ => false
def pairs : List Value → List Value → Option (List (Int × Int))
  | [], [] => some []
  | .int k a :: r, .int k' b :: s => bif Nat.beq (kc k) (kc k') then (match pairs r s with | some l => some ((a, b) :: l) | none => none) else none
  | _, _ => none
def conjP : List (Int × Int) → Prop
  | [] => True
  | (a, b) :: r => a = b ∧ conjP r
theorem pairs_len : ∀ {xs ys : List Value} {l : List (Int × Int)}, pairs xs ys = some l → xs.length = l.length ∧ ys.length = l.length := by
  intro xs
  induction xs with
  | nil =>
    intro ys l h
    cases ys with
    | nil => injection h with h; subst h; exact ⟨rfl, rfl⟩
    | cons y s => cases h
  | cons x r ih =>
    intro ys l h
    cases x <;> cases ys <;> first | (cases h; done) | skip
    rename_i k a y s
    cases y <;> first | (cases h; done) | skip
    rename_i k' b
    unfold pairs at h
    cases hk : Nat.beq (kc k) (kc k') with
    | false => rw [hk] at h; cases h
    | true =>
      rw [hk] at h
      simp only [cond_true] at h
      split at h
      · rename_i l' hl
        injection h with h
        subst h
        have := ih hl
        simp [this.1, this.2]
      · cases h
theorem pairs_app : ∀ (m : Nat) {xs ys : List Value} {l : List (Int × Int)}, pairs xs ys = some l → pairs (xs.take m) (ys.take m) = some (l.take m) ∧ pairs (xs.drop m) (ys.drop m) = some (l.drop m) := by
  intro m
  induction m with
  | zero => intro xs ys l h; simpa [pairs] using h
  | succ m ih =>
    intro xs ys l h
    cases xs with
    | nil =>
      cases ys with
      | nil => injection h with h; subst h; simp [pairs]
      | cons y s => cases h
    | cons x r =>
      cases x <;> cases ys <;> first | (cases h; done) | skip
      rename_i k a y s
      cases y <;> first | (cases h; done) | skip
      rename_i k' b
      unfold pairs at h
      cases hk : Nat.beq (kc k) (kc k') with
      | false => rw [hk] at h; cases h
      | true =>
        rw [hk] at h
        simp only [cond_true] at h
        split at h
        · rename_i l' hl
          injection h with h
          subst h
          obtain ⟨h1, h2⟩ := ih hl
          simp [pairs, hk, h1, h2]
        · cases h
theorem conjP_app (a b : List (Int × Int)) : conjP (a ++ b) ↔ conjP a ∧ conjP b := by
  induction a with
  | nil => simp [conjP]
  | cons x r ih => obtain ⟨p, q⟩ := x; simp [conjP, ih, and_assoc]
def asV (g : Bool) (l : List Value) : Value := bif g then .agg l.toArray else (match l with | x :: _ => x | [] => undef)
theorem szOf_of {P : Program} {t n : Nat} (h : szIs P t n = true) : szOf P t = n := by
  obtain ⟨i, h1, h2⟩ := szIs_get h
  simp [szOf, h1, h2]
theorem eq_flat {P : Program} : ∀ (d t n : Nat), flatI P d t n = true → ∀ (xs ys : List Value) (l : List (Int × Int)) (w : World), xs.length = n → pairs xs ys = some l →
    (Op.equalIn d t (asV (aggT P t) xs) (asV (aggT P t) ys)).run P w = .ok (tB (conjP l)) w := by
  intro d
  induction d with
  | zero => intro t n h; cases h
  | succ d ih =>
    intro t n h xs ys l w hn hp
    unfold flatI at h
    split at h
    · rename_i k hu
      have hn1 : n = 1 := Nat.eq_of_beq_eq_true h
      have ha : aggT P t = false := by simp [aggT, hu]
      obtain ⟨h1, h2⟩ := pairs_len hp
      match xs, ys, hn, h1, h2, hp with
      | [x], [y], _, _, _, hp =>
        rw [ha]
        obtain ⟨k1, a, k2, b, rfl, rfl⟩ : ∃ k1 a k2 b, x = .int k1 a ∧ y = .int k2 b := by
          cases x <;> cases y <;> first | (cases hp; done) | exact ⟨_, _, _, _, rfl, rfl⟩
        unfold pairs at hp
        cases hk : Nat.beq (kc k1) (kc k2) with
        | false => rw [hk] at hp; cases hp
        | true =>
          rw [hk] at hp
          simp [pairs] at hp
          subst hp
          rw [← kc_inj hk]
          show (Op.equalIn (d + 1) t (.int k1 a) (.int k1 b)).run P w = _
          rw [run_equalIn_int w d t k1 k a b hu, tB_congr (p := conjP [(a, b)]) (q := a = b) (by simp [conjP]), tB_eq]
          rfl
      | [], _, hn, _, _, _ => simp at hn; omega
      | _ :: _ :: _, _, hn, _, _, _ => simp at hn; omega
      | [x], [], _, h1, h2, _ => simp at h1 h2; omega
      | [x], _ :: _ :: _, _, h1, h2, _ => simp at h1 h2; omega
    · rename_i fs hu
      rw [Bool.and_eq_true] at h
      obtain ⟨hs, hf⟩ := h
      have ha : aggT P t = true := by simp [aggT, hu]
      rw [ha]
      show (Op.equalIn (d + 1) t (.agg xs.toArray) (.agg ys.toArray)).run P w = _
      have hfo : P.fieldsOf t = fs := by simp [Program.fieldsOf, hu]
      rw [run_equalIn_struct w d t _ _ (by rw [hfo]; exact hu) (by simpa using hs), hfo]
      obtain ⟨hl1, hl2⟩ := pairs_len hp
      have key : ∀ (fs : List Field) (o : Nat), flatQ P (flatI P d) fs o n = true → o ≤ n → (Op.eqFields d xs.toArray ys.toArray fs).run P w = .ok (tB (conjP (l.drop o))) w := by
        intro fs
        induction fs with
        | nil =>
          intro o hf ho
          have : o = n := Nat.eq_of_beq_eq_true hf
          subst this
          rw [List.drop_of_length_le (by omega)]
          show Result.ok true w = _
          rw [tB_true (p := conjP []) trivial]
        | cons f r ih2 =>
          intro o hf ho
          unfold flatQ at hf
          rw [Bool.and_eq_true, Bool.and_eq_true, Bool.and_eq_true, Bool.and_eq_true] at hf
          obtain ⟨⟨⟨⟨f1, f2⟩, f3⟩, f4⟩, f5⟩ := hf
          have e1 := Nat.eq_of_beq_eq_true f1
          have hnm : f.name ≠ "_" := by simpa using f2
          generalize hm : szOf P f.type = m at *
          obtain ⟨p1, p2⟩ := pairs_app o hp
          obtain ⟨q1, q2⟩ := pairs_app m p2
          have hom : o + m ≤ n := by
            clear ih2 q1 q2 p1 p2
            have : ∀ (fs : List Field) (o : Nat), flatQ P (flatI P d) fs o n = true → o ≤ n := by
              intro fs
              induction fs with
              | nil => intro o h; exact Nat.le_of_eq (Nat.eq_of_beq_eq_true h)
              | cons f r ih => intro o h; unfold flatQ at h; rw [Bool.and_eq_true] at h; have := ih _ h.2; omega
            exact this r _ f5
          have hpart : ∀ (zs : List Value), zs.length = n → (part f.type zs.toArray f.offset).run P w = .ok (asV (aggT P f.type) ((zs.drop o).take m)) w := by
            intro zs hz
            have hU : hasU P f.type = true := by
              unfold hasU
              cases hh : P.underlying f.type with
              | some _ => rfl
              | none => cases d <;> simp [flatI, hh] at f4
            unfold part
            rw [Sem.run_bind, run_isAggT hU w]
            cases hg : aggT P f.type with
            | true =>
              have hx : zs.toArray.extract o (o + m) = ((zs.drop o).take m).toArray := by
                apply Array.ext'
                simp [List.extract_eq_take_drop]
              simp [asV, run_sizeOf f3, e1, hx]
            | false =>
              have hm1 : m = 1 := by
                cases d with
                | zero => cases f4
                | succ d =>
                  unfold flatI at f4
                  split at f4
                  · exact Nat.eq_of_beq_eq_true f4
                  · rename_i hh; simp [aggT, hh] at hg
                  · cases f4
              subst hm1
              have ho' : o < zs.length := by omega
              have e3 : (zs.drop o).take 1 = [zs[o]] := by
                rw [List.drop_eq_getElem_cons ho']; rfl
              simp [asV, e1, e3, ho']
          unfold Op.eqFields
          rw [if_pos hnm]
          simp only [Sem.run_bind, hpart xs hn, hpart ys (by omega), Result.andThen_ok, ih f.type m f4 _ _ _ w (by rw [List.length_take, List.length_drop]; omega) q1]
          have hsplit : l.drop o = (l.drop o).take m ++ (l.drop o).drop m := (List.take_append_drop _ _).symm
          by_cases hc : conjP ((l.drop o).take m)
          · rw [tB_true hc]
            simp only [Bool.not_true, Bool.false_eq_true, if_false]
            rw [ih2 (o + m) f5 hom, tB_congr (q := conjP (l.drop o)) (by
              rw [show l.drop (o + m) = (l.drop o).drop m by rw [List.drop_drop]]
              conv => rhs; rw [hsplit, conjP_app]
              exact ⟨fun h => ⟨hc, h⟩, fun h => h.2⟩)]
          · rw [tB_false hc]
            simp only [Bool.not_false, if_true, Sem.run_pure]
            rw [tB_false (p := conjP (l.drop o)) (fun h => hc (by rw [hsplit, conjP_app] at h; exact h.1))]
      have := key fs.toList 0 hf (Nat.zero_le _)
      simpa using this
    · cases h
section
variable {X : Cx} {f : Fr} {O R : List Fact} {ks k : List KI} {ops rest : List Oper} {o : Oper} {N : Fr → List Fact → List Fact → Prop}
theorem bel_same {P : Program} {fid : FuncId} {args : Array Value} {w : World} {v : Value} (h : Calls P fid args w fun e w' => e = .returned v ∧ w = w') : Calls P fid args w fun e w' => e = .returned v ∧ Below w.heap.size w w' := h.mono fun e w' ⟨a, b⟩ => ⟨a, b ▸ Below.refl _ _⟩
def eqOk (P : Program) (t n : Nat) : Bool := flatI P 10000 t n && aggT P t && !(P.eqGuardType P.depth t)
theorem yd_eql {t n : Nat} {x y : Operand} {yt : TypeId} {xs ys : List Value} {l : List (Int × Int)} (ho : o.op = .binOp .eql t x y yt) (hx : look X.n f x = some (.agg xs.toArray)) (hy : look X.n f y = some (.agg ys.toArray)) (hp : pairs xs ys = some l) (hn : xs.length = n) (hB : eqOk X.P t n = true) : Yd X f O R o (.bool (tB (conjP l))) := fun a w hr hk => by
  unfold eqOk at hB
  rw [Bool.and_eq_true, Bool.and_eq_true] at hB
  have h1 := eq_flat 10000 t n hB.1.1 xs ys l w hn hp
  rw [hB.1.2] at h1
  have h2 : (eqGuard .eql t x y (.agg xs.toArray) (.agg ys.toArray)).run X.P w = .ok () w := run_eqGuard_agg w _ _ _ _ _ _ (by simpa using hB.2)
  have h3 : (Op.equalIn 10000 t (.agg xs.toArray) (.agg ys.toArray)).run X.P w = .ok (tB (conjP l)) w := h1
  simp only [execOp, ho, hr.look hx, hr.look hy, Sem.run_bind, h2, Result.andThen_ok, run_eql_struct, h3]
  rfl
theorem yd_neq {t n : Nat} {x y : Operand} {yt : TypeId} {xs ys : List Value} {l : List (Int × Int)} (ho : o.op = .binOp .neq t x y yt) (hx : look X.n f x = some (.agg xs.toArray)) (hy : look X.n f y = some (.agg ys.toArray)) (hp : pairs xs ys = some l) (hn : xs.length = n) (hB : eqOk X.P t n = true) : Yd X f O R o (.bool (tB (¬ conjP l))) := fun a w hr hk => by
  unfold eqOk at hB
  rw [Bool.and_eq_true, Bool.and_eq_true] at hB
  have h1 := eq_flat 10000 t n hB.1.1 xs ys l w hn hp
  rw [hB.1.2] at h1
  have h2 : (eqGuard .neq t x y (.agg xs.toArray) (.agg ys.toArray)).run X.P w = .ok () w := run_eqGuard_agg w _ _ _ _ _ _ (by simpa using hB.2)
  have h3 : (Op.equalIn 10000 t (.agg xs.toArray) (.agg ys.toArray)).run X.P w = .ok (tB (conjP l)) w := h1
  rw [← not_tB]
  simp only [execOp, ho, hr.look hx, hr.look hy, Sem.run_bind, h2, Result.andThen_ok, run_neq_struct, h3]
  rfl
/-- 'make([]T, n)' with a constant. -/
theorem mv_make {dd : Nat} (hd : o.dst = some dd) (hT : TabOk X.P X.T) {ty e sz t s t' s' : Nat} {z' : List Value} {d : TD} {x y : Operand} {k1 k2 : IntKind} {j1 j2 : Int} (n : Nat) (bytes : Nat) (ho : o.op = .makeSlice ty x y) (hx : look X.n f x = some (.int k1 j1)) (hy : look X.n f y = some (.int k2 j2)) (e1 : j1 = (n : Int)) (e2 : j2 = (n : Int))
    {z : List Value} (hty : tfind X.T ty = some ⟨t, .slice e sz, s, z⟩) (hte : tfind X.T e = some ⟨t', d, s', z'⟩) (hb : (X.P.info? e).map (·.bytes) = some bytes) (hbn : bytes * n ≤ 140737488355328) (hn : n ≤ 9223372036854775807) (hsz : Nat.blt 0 sz = true) (hzl : Nat.beq z'.length sz = true)
    (hg : ∀ g, N ((dd, .slice (some ⟨g, 0, none⟩) n n) :: f) (blk g (rep n z') e :: O) R) : Mv X f O R o N := fun a w hr hk K Q hK => by
  subst e1
  subst e2
  unfold Oper.wp
  obtain ⟨ht, hk1⟩ := tfind_ok hT hty
  obtain ⟨hte1, hk2⟩ := tfind_ok hT hte
  simp only at ht hte1
  subst ht
  subst hte1
  obtain ⟨hu, hes⟩ := chk_slice hk1.d
  have hz := hk2.z
  have hsz' : 0 < sz := Nat.le_of_ble_eq_true hsz
  have hzs : z'.length = sz := Nat.eq_of_beq_eq_true hzl
  cases hi : X.P.info? t' with
  | none => simp [hi] at hz
  | some inf =>
    cases hz0 : inf.zero with
    | none => simp [hi, hz0] at hz
    | some zv =>
      simp only [hi, hz0, Option.bind_some, Option.map_some] at hz hb
      have hz' : zv.cells = z'.toArray := by injection hz
      injection hb with hb
      have hisz : inf.size = sz := by
        obtain ⟨i1, h2, h3⟩ := szIs_get hes
        rw [hi] at h2; injection h2 with h2; rw [h2, h3]
      have hb2 : ((inf.bytes : Int) * (n : Int)) ≤ 281474976710656 := by
        have h9 : ((bytes * n : Nat) : Int) ≤ 281474976710656 := by omega
        rw [Int.natCast_mul] at h9
        rw [hb]; exact h9
      have hrun := run_make (P := X.P) w t t' inf zv hu hi hz0 k1 k2 n n (by omega) (by omega) hb2 (by omega)
      have harr : madeCells zv.cells ((n : Int).toNat * inf.size) = (rep n z').toArray := by
        apply Array.ext'
        rw [hz', hisz, Int.toNat_natCast]
        have := rep_eq z'.toArray (by simp; omega) n
        simp only [List.size_toArray, hzs] at this
        rw [← this]
        simp [madeCells, hzs]
      have : (execOp a.eval o).run X.P w = .ok (.value (.slice (some ⟨w.heap.size, 0, none⟩) n n)) (w.alloc (.cells (rep n z').toArray t')) := by
        rw [harr] at hrun
        simp only [Int.toNat_natCast] at hrun
        simp [execOp, ho, hr.look hx, hr.look hy, hrun]
      rw [this]
      exact hK _ _ _ _ _ (hg _) (hr.put1 hd _) (hk.alloc _ t')
/-- What a call hands back that is a new slice, with whatever beside it. -/
def RetSl {α : Type} [Inhabited α] (F : Value → Value) (sz : Nat) (enc : α → Nat → Value) (L : List α) (w : World) (e : Ending) (w' : World) : Prop :=
  ∃ A n c, e = .returned (F (.slice A n c)) ∧ n = L.length ∧ n ≤ c ∧ (A = none → c = 0) ∧ Sl w' A sz enc L ∧ (∀ a, A = some a → w.heap.size ≤ a.block) ∧ Below w.heap.size w w'
theorem RetSl.of {α : Type} [Inhabited α] {F : Value → Value} {sz : Nat} {enc : α → Nat → Value} {L : List α} {P : Program} {fid : FuncId} {args : Array Value} {w : World} {e' : TypeId} (h : Calls P fid args w fun e w' => ∃ v, e = .returned (F v) ∧ OwnL w' w.heap.size e' sz v enc L ∧ Below w.heap.size w w') : Calls P fid args w (RetSl F sz enc L w) :=
  h.mono fun e w' ⟨v, h1, h2, h3⟩ => by
    obtain ⟨A, c, rfl, k1, k2, k3, k4, k5⟩ := OwnL.sl h2
    exact ⟨A, _, c, h1, rfl, k2, k4, k1, fun a ha => (k5 a ha).1, h3⟩
theorem mv_call_new {α : Type} [Inhabited α] {F : Value → Value} {sz : Nat} {enc : α → Nat → Value} {L : List α} {fid : Nat} {args : List Value} (h : ∀ w, Kn X.E X.w0 w O R → Calls X.P fid args.toArray w (RetSl F sz enc L w)) (hsz : 0 < sz) {dd : Nat} (hd : o.dst = some dd) {c : Call} {x : Operand} (ho : o.op = .call c) (hc : c.callee = .value x) (hx : look X.n f x = some (.func (.func fid) #[] #[])) (ha : lookL X.n f c.args.toList = some args) (hok : callable X.P fid = true)
    (hg : ∀ A n c, n = L.length → n ≤ c → (A = none → c = 0) → N ((dd, F (.slice A n c)) :: f) (sl A sz enc L :: O) R) : Mv X f O R o N :=
  mv_call hd ho hc hx ha hok fun w hk => (h w hk).mono fun e w' ⟨A, n, c, he, h1, h2, h3, h4, h5, h6⟩ => ⟨_, _, _, he, hk.fresh h6 [sl A sz enc L] (fun φ hφ => by
    rcases List.mem_cons.1 hφ with rfl | h7
    · refine ⟨h4, fun b hb => ?_⟩
      obtain ⟨hn, a, ha, hab⟩ := hb
      obtain ⟨b', off, e1, hcc⟩ := h4 hn
      rw [e1] at ha
      injection ha with ha
      have h8 := lt_of_cell (hcc 0 hn 0 hsz)
      rw [← ha] at hab
      rw [← hab]
      exact ⟨h5 _ e1, h8⟩
    · cases h7) (List.pairwise_singleton _ _), hg A n c h1 h2 h3⟩
def pickF (O : List Fact) : List Nat → Option (List Fact)
  | [] => some []
  | i :: r => match O[i]?, pickF O r with | some φ, some l => some (φ :: l) | _, _ => none
/-- The stable facts: those of one's own with these numbers, and all that are shared. -/
theorem gk_drawn_at (is : List Nat) {S : List Fact} (hS : pickF (O ++ R) is = some S) {id : Nat} {l : List Oper} (h : nx 1000 ks = some (.region id l true k)) (hm : X.P.follows .mixedOrders = true) (hg : GA X S l 0 l k f O R) : GK X ks f O R := gk_drawn S h hm hg
end
end Go.Proofs.Ytkdphoacniigjaa.Gx
