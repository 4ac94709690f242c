/- Second part: the table of types; what an operation yields that leaves the memory alone. -/
import Derived.Test.YtkdphoacniigjaaGx
namespace Go.Proofs.Ytkdphoacniigjaa.Gx
open Go.RowKit Mem
set_option linter.unusedVariables false
set_option linter.unusedSimpArgs false

def kc : IntKind → Nat
  | .i8 => 0 | .i16 => 1 | .i32 => 2 | .i64 => 3 | .u8 => 4 | .u16 => 5 | .u32 => 6 | .u64 => 7
theorem kc_inj {k k' : IntKind} (h : Nat.beq (kc k) (kc k') = true) : k = k' := by
  cases k <;> cases k' <;> first | rfl | (exact absurd h (by decide))
inductive TD where
  | int (k : IntKind) | bool | str | map | iface | func
  | ptr (esz : Nat)
  | struct (offs : List (Nat × Nat × Bool))      -- of each field: where, how many cells, whether it is a struct or an array
  | slice (e esz : Nat)
  | array (n e esz : Nat)
structure Ty where
  t : Nat
  d : TD
  sz : Nat
  z : List Value
abbrev Tab := List Ty
def tfind : Tab → Nat → Option Ty
  | [], _ => none
  | ty :: r, t => bif Nat.beq ty.t t then some ty else tfind r t
def szIs (P : Program) (t n : Nat) : Bool := match P.info? t with | some i => Nat.beq i.size n | none => false
def aggT (P : Program) (t : Nat) : Bool := match P.underlying t with | some (.struct _) => true | some (.array _ _) => true | _ => false
def hasU (P : Program) (t : Nat) : Bool := match P.underlying t with | some _ => true | none => false
def beqB : Bool → Bool → Bool | true, true => true | false, false => true | _, _ => false
def offOk (P : Program) : List (Nat × Nat × Bool) → List Field → Bool
  | [], [] => true
  | [], _ :: _ => false
  | _ :: _, [] => false
  | (o, n, g) :: os, f :: fs => Nat.beq f.offset o && (szIs P f.type n && !(Nat.beq n 0)) && (beqB (aggT P f.type) g && hasU P f.type) && offOk P os fs
def chkD (P : Program) (t : Nat) (d : TD) : Bool :=
  match d, P.underlying t with
  | .int k, some (.int k') => Nat.beq (kc k) (kc k')
  | .bool, some .bool => true
  | .str, some .string => true
  | .map, some (.map _ _) => true
  | .iface, some (.interface _) => true
  | .func, some (.func _ _ _) => true
  | .ptr n, some (.pointer e) => szIs P e n
  | .struct os, some (.struct fs) => offOk P os fs.toList
  | .slice e n, some (.slice e') => Nat.beq e e' && szIs P e n
  | .array m e n, some (.array m' e') => Nat.beq m m' && Nat.beq e e' && szIs P e n
  | _, _ => false
structure TOk (P : Program) (ty : Ty) : Prop where
  d : chkD P ty.t ty.d = true
  sz : szIs P ty.t ty.sz = true
  z : ((P.info? ty.t).bind (·.zero)).map (fun v => v.cells) = some ty.z.toArray
def TabOk (P : Program) : Tab → Prop
  | [] => True
  | ty :: r => TOk P ty ∧ TabOk P r
theorem tfind_ok {P : Program} {t : Nat} {ty : Ty} : ∀ {T : Tab}, TabOk P T → tfind T t = some ty → ty.t = t ∧ TOk P ty
  | [], _, h => by cases h
  | u :: r, hT, h => by
    unfold tfind at h
    cases e : Nat.beq u.t t with
    | true =>
      rw [e] at h
      injection h with h
      subst h
      exact ⟨Nat.eq_of_beq_eq_true e, hT.1⟩
    | false =>
      rw [e] at h
      exact tfind_ok hT.2 h
section
variable {P : Program} {t : Nat}
theorem szIs_get {n : Nat} (h : szIs P t n = true) : ∃ i, P.info? t = some i ∧ i.size = n := by
  unfold szIs at h
  split at h
  · rename_i i hi; exact ⟨i, hi, Nat.eq_of_beq_eq_true h⟩
  · cases h
theorem run_sizeOf {n : Nat} (h : szIs P t n = true) (w : World) : (sizeOf t).run P w = .ok n w := by
  obtain ⟨i, h1, h2⟩ := szIs_get h
  simp [sizeOf, typeInfo, h1, h2]
theorem chk_int {k : IntKind} (h : chkD P t (.int k) = true) : P.underlying t = some (.int k) := by
  cases hu : P.underlying t with
  | none => simp [chkD, hu] at h
  | some d => cases d <;> simp only [chkD, hu] at h <;> first | (cases h; done) | rw [kc_inj h]
theorem chk_bool (h : chkD P t .bool = true) : P.underlying t = some .bool := by
  cases hu : P.underlying t with
  | none => simp [chkD, hu] at h
  | some d => cases d <;> simp only [chkD, hu] at h <;> first | (cases h; done) | rfl
theorem chk_str (h : chkD P t .str = true) : P.underlying t = some .string := by
  cases hu : P.underlying t with
  | none => simp [chkD, hu] at h
  | some d => cases d <;> simp only [chkD, hu] at h <;> first | (cases h; done) | rfl
theorem chk_map (h : chkD P t .map = true) : ∃ k e, P.underlying t = some (.map k e) := by
  cases hu : P.underlying t with
  | none => simp [chkD, hu] at h
  | some d => cases d <;> simp only [chkD, hu] at h <;> first | (cases h; done) | exact ⟨_, _, rfl⟩
theorem chk_ptr {n : Nat} (h : chkD P t (.ptr n) = true) : ∃ e, P.underlying t = some (.pointer e) ∧ szIs P e n = true := by
  cases hu : P.underlying t with
  | none => simp [chkD, hu] at h
  | some d => cases d <;> simp only [chkD, hu] at h <;> first | (cases h; done) | exact ⟨_, rfl, h⟩
theorem chk_struct {os : List (Nat × Nat × Bool)} (h : chkD P t (.struct os) = true) : ∃ fs, P.underlying t = some (.struct fs) ∧ offOk P os fs.toList = true := by
  cases hu : P.underlying t with
  | none => simp [chkD, hu] at h
  | some d => cases d <;> simp only [chkD, hu] at h <;> first | (cases h; done) | exact ⟨_, rfl, h⟩
theorem chk_slice {e n : Nat} (h : chkD P t (.slice e n) = true) : P.underlying t = some (.slice e) ∧ szIs P e n = true := by
  cases hu : P.underlying t with
  | none => simp [chkD, hu] at h
  | some d =>
    cases d <;> simp only [chkD, hu] at h <;> first | (cases h; done) | skip
    rw [Bool.and_eq_true] at h
    rw [Nat.eq_of_beq_eq_true h.1] at *
    exact ⟨rfl, h.2⟩
theorem chk_array {m e n : Nat} (h : chkD P t (.array m e n) = true) : P.underlying t = some (.array m e) ∧ szIs P e n = true := by
  cases hu : P.underlying t with
  | none => simp [chkD, hu] at h
  | some d =>
    cases d <;> simp only [chkD, hu] at h <;> first | (cases h; done) | skip
    rw [Bool.and_eq_true, Bool.and_eq_true] at h
    rw [Nat.eq_of_beq_eq_true h.1.1, Nat.eq_of_beq_eq_true h.1.2] at *
    exact ⟨rfl, h.2⟩
theorem beqB_eq {a b : Bool} (h : beqB a b = true) : a = b := by cases a <;> cases b <;> first | rfl | cases h
theorem run_isAggT (h : hasU P t = true) (w : World) : (isAgg t).run P w = .ok (aggT P t) w := by
  unfold hasU at h
  cases hu : P.underlying t with
  | none => rw [hu] at h; cases h
  | some d => unfold isAgg aggT; cases d <;> simp [run_underlying hu, hu]
theorem offOk_get {P : Program} : ∀ {os : List (Nat × Nat × Bool)} {fs : List Field}, offOk P os fs = true → ∀ {i o n : Nat} {g : Bool}, os[i]? = some (o, n, g) → ∃ f, fs[i]? = some f ∧ f.offset = o ∧ szIs P f.type n = true ∧ n ≠ 0 ∧ aggT P f.type = g ∧ hasU P f.type = true
  | [], _, _, i, o, n, g, h => by simp at h
  | _ :: _, [], h, _, _, _, _, _ => by simp [offOk] at h
  | (a, m, q) :: os, f :: fs, h, i, o, n, g, hi => by
    unfold offOk at h
    rw [Bool.and_eq_true, Bool.and_eq_true, Bool.and_eq_true, Bool.and_eq_true, Bool.and_eq_true] at h
    obtain ⟨⟨⟨h1, h2, h3⟩, h4, h5⟩, h6⟩ := h
    cases i with
    | zero =>
      simp at hi
      obtain ⟨rfl, rfl, rfl⟩ := hi
      exact ⟨f, rfl, Nat.eq_of_beq_eq_true h1, h2, (fun e => by rw [e] at h3; simp at h3), beqB_eq h4, h5⟩
    | succ i => exact offOk_get h6 (by simpa using hi)
def agg? : TD → Bool
  | .struct _ | .array _ _ _ => true
  | _ => false
theorem run_isAgg {d : TD} (h : chkD P t d = true) (w : World) : (isAgg t).run P w = .ok (agg? d) w := by
  unfold isAgg
  cases d with
  | int k => simp [run_underlying (chk_int h), agg?]
  | bool => simp [run_underlying (chk_bool h), agg?]
  | str => simp [run_underlying (chk_str h), agg?]
  | map => obtain ⟨_, _, h⟩ := chk_map h; simp [run_underlying h, agg?]
  | ptr n => obtain ⟨_, h, _⟩ := chk_ptr h; simp [run_underlying h, agg?]
  | struct os => obtain ⟨_, h, _⟩ := chk_struct h; simp [run_underlying h, agg?]
  | slice e n => simp [run_underlying (chk_slice h).1, agg?]
  | array m e n => simp [run_underlying (chk_array h).1, agg?]
  | iface =>
    cases hu : P.underlying t with
    | none => simp [chkD, hu] at h
    | some d => cases d <;> simp only [chkD, hu] at h <;> first | (cases h; done) | simp [run_underlying hu, agg?]
  | func =>
    cases hu : P.underlying t with
    | none => simp [chkD, hu] at h
    | some d => cases d <;> simp only [chkD, hu] at h <;> first | (cases h; done) | simp [run_underlying hu, agg?]
/-! ### integers -/
def inR (k : IntKind) (x : Int) : Prop :=
  match k with
  | .i8 => -128 ≤ x ∧ x ≤ 127 | .i16 => -32768 ≤ x ∧ x ≤ 32767 | .i32 => -2147483648 ≤ x ∧ x ≤ 2147483647 | .i64 => -9223372036854775808 ≤ x ∧ x ≤ 9223372036854775807
  | .u8 => 0 ≤ x ∧ x ≤ 255 | .u16 => 0 ≤ x ∧ x ≤ 65535 | .u32 => 0 ≤ x ∧ x ≤ 4294967295 | .u64 => 0 ≤ x ∧ x ≤ 18446744073709551615
theorem wrap_inR {k : IntKind} {x : Int} (h : inR k x) : k.wrap x = x := by
  cases k <;> simp only [inR] at h <;> simp only [IntKind.wrap, IntKind.bits, IntKind.signed] <;> simp <;> omega
/-- What a sum may be: itself, if it is in its kind's bounds; else as it is wrapped. -/
def ari (nw : Bool) (k : IntKind) (x : Int) : Value × Prop := bif nw then (.int k x, inR k x) else (.int k (k.wrap x), True)
theorem ari_val {nw : Bool} {k : IntKind} {x : Int} (h : (ari nw k x).2) : (ari nw k x).1 = .int k (k.wrap x) := by
  cases nw with
  | false => rfl
  | true => show Value.int k x = _; rw [wrap_inR h]
/-- A test, shut: nothing looks into it. -/
noncomputable def tB (p : Prop) : Bool := @decide p (Classical.propDecidable p)
theorem tB_eq (p : Prop) [h : Decidable p] : tB p = decide p := by
  unfold tB
  by_cases hp : p <;> simp [hp]
theorem tB_true {p : Prop} (h : p) : tB p = true := by unfold tB; simp [h]
theorem tB_false {p : Prop} (h : ¬ p) : tB p = false := by unfold tB; simp [h]
theorem tB_iff {p : Prop} : tB p = true ↔ p := by unfold tB; simp
theorem tB_congr {p q : Prop} (h : p ↔ q) : tB p = tB q := by rw [propext h]
theorem not_tB {p : Prop} : (!tB p) = tB (¬ p) := by
  by_cases h : p
  · rw [tB_true h, tB_false (fun h' => h' h)]; rfl
  · rw [tB_false h, tB_true h]; rfl
theorem ret_bool {a b : Bool} (h : a = true ↔ b = true) : Ending.returned (.bool a) = .returned (.bool b) := by rw [Bool.eq_iff_iff.2 h]
noncomputable def evInt (nw : Bool) (op : BinOp) (k : IntKind) (a b : Int) : Option (Value × Prop) :=
  match op with
  | .add => some (ari nw k (a + b))
  | .sub => some (ari nw k (a - b))
  | .mul => some (ari nw k (a * b))
  | .eql => some (.bool (tB (a = b)), True)
  | .neq => some (.bool (tB (¬ a = b)), True)
  | .lss => some (.bool (tB (a < b)), True)
  | .leq => some (.bool (tB (a ≤ b)), True)
  | .gtr => some (.bool (tB (b < a)), True)
  | .geq => some (.bool (tB (b ≤ a)), True)
  | .quo => bif nw then some (.int k (a / b), 0 ≤ a ∧ 0 < b ∧ inR k (a / b)) else some (.int k (k.wrap (a.tdiv b)), b ≠ 0)
  | .rem => bif nw then some (.int k (a % b), 0 ≤ a ∧ 0 < b) else some (.int k (a.tmod b), b ≠ 0)
  | _ => none
theorem evInt_sound {nw : Bool} {op : BinOp} {k : IntKind} {a b : Int} {v : Value} {p : Prop} (h : evInt nw op k a b = some (v, p)) (hp : p) (t : TypeId) (w : World) : (binOp op t (.int k a) (.int k b)).run P w = .ok v w := by
  cases op <;> simp only [evInt] at h <;> first | (cases h; done) | skip
  case add =>
    have e := Option.some.inj h
    obtain ⟨rfl, rfl⟩ : v = (ari nw k (a + b)).1 ∧ p = (ari nw k (a + b)).2 := by rw [e]; exact ⟨rfl, rfl⟩
    rw [ari_val hp]
    simp [binOp, Op.intArith]
  case sub =>
    have e := Option.some.inj h
    obtain ⟨rfl, rfl⟩ : v = (ari nw k (a - b)).1 ∧ p = (ari nw k (a - b)).2 := by rw [e]; exact ⟨rfl, rfl⟩
    rw [ari_val hp]
    simp [binOp, Op.intArith]
  case mul =>
    have e := Option.some.inj h
    obtain ⟨rfl, rfl⟩ : v = (ari nw k (a * b)).1 ∧ p = (ari nw k (a * b)).2 := by rw [e]; exact ⟨rfl, rfl⟩
    rw [ari_val hp]
    simp [binOp, Op.intArith]
  case quo =>
    cases nw with
    | true =>
      simp at h
      obtain ⟨h1, h2⟩ := h
      rw [← h2] at hp
      obtain ⟨p1, p2, p3⟩ := hp
      rw [← h1]
      have : b ≠ 0 := by omega
      simp [binOp, Op.intDiv, this]
      rw [Int.tdiv_eq_ediv_of_nonneg p1, wrap_inR p3]
    | false =>
      simp at h
      obtain ⟨h1, h2⟩ := h
      rw [← h2] at hp
      rw [← h1]
      simp [binOp, Op.intDiv, hp]
  case rem =>
    cases nw with
    | true =>
      simp at h
      obtain ⟨h1, h2⟩ := h
      rw [← h2] at hp
      obtain ⟨p1, p2⟩ := hp
      rw [← h1]
      have : b ≠ 0 := by omega
      simp [binOp, Op.intDiv, this]
      rw [Int.tmod_eq_emod_of_nonneg p1]
    | false =>
      simp at h
      obtain ⟨h1, h2⟩ := h
      rw [← h2] at hp
      rw [← h1]
      simp [binOp, Op.intDiv, hp]
  all_goals (injection h with h; injection h with h1 h2; subst h1; rw [tB_eq]; simp [binOp, Op.intCmp]; try rfl)
theorem equal_bool (hu : P.underlying t = some .bool) (a b : Bool) (w : World) : (Op.equal t (.bool a) (.bool b)).run P w = .ok (a == b) w := by
  show (Op.equalIn (9999 + 1) t (.bool a) (.bool b)).run P w = _
  generalize 9999 = d
  unfold Op.equalIn
  simp only [Sem.run_bind, run_underlying hu, Result.andThen_ok]
  rfl
theorem equal_nil1 {e : TypeId} (hu : P.underlying t = some (.pointer e)) (a : Addr) (w : World) : (Op.equal t (.pointer (some a)) (.pointer none)).run P w = .ok false w := by
  show (Op.equalIn (9999 + 1) t (.pointer (some a)) (.pointer none)).run P w = _
  generalize 9999 = d
  unfold Op.equalIn
  simp only [Sem.run_bind, run_underlying hu, Result.andThen_ok]
  rfl
theorem equal_nil2 {e : TypeId} (hu : P.underlying t = some (.pointer e)) (w : World) : (Op.equal t (.pointer none) (.pointer none)).run P w = .ok true w := by
  show (Op.equalIn (9999 + 1) t (.pointer none) (.pointer none)).run P w = _
  generalize 9999 = d
  unfold Op.equalIn
  simp only [Sem.run_bind, run_underlying hu, Result.andThen_ok]
  rfl
theorem bin_eql {x y : Value} {b : Bool} (w : World) (he : binOp .eql t x y = do pure (.bool (← Op.equal t x y))) (h : (Op.equal t x y).run P w = .ok b w) : (binOp .eql t x y).run P w = .ok (.bool b) w := by
  rw [he, Sem.run_bind, h]; rfl
theorem bin_neq {x y : Value} {b : Bool} (w : World) (he : binOp .neq t x y = do pure (.bool (!(← Op.equal t x y)))) (h : (Op.equal t x y).run P w = .ok b w) : (binOp .neq t x y).run P w = .ok (.bool (!b)) w := by
  rw [he, Sem.run_bind, h]; rfl
/-- Two values. -/
noncomputable def evBin (T : Tab) (nw : Bool) (op : BinOp) (t : Nat) (x y : Value) : Option (Value × Prop) :=
  match x, y with
  | .int k a, .int k' b =>
    match op with
    | .shl => some ((ari nw k (a * 2 ^ (min b.toNat k.bits))).1, 0 ≤ b ∧ (ari nw k (a * 2 ^ (min b.toNat k.bits))).2)
    | .shr => some (.int k (a.fdiv (2 ^ (min b.toNat k.bits))), 0 ≤ b)
    | _ => bif Nat.beq (kc k) (kc k') then evInt nw op k a b else none
  | .bool a, .bool b =>
    match op, tfind T t with
    | .eql, some ⟨_, .bool, _, _⟩ => some (.bool (tB (a = b)), True)
    | .neq, some ⟨_, .bool, _, _⟩ => some (.bool (tB (¬ a = b)), True)
    | _, _ => none
  | .pointer (some _), .pointer none =>
    match op, tfind T t with
    | .eql, some ⟨_, .ptr _, _, _⟩ => some (.bool false, True)
    | .neq, some ⟨_, .ptr _, _, _⟩ => some (.bool true, True)
    | _, _ => none
  | .pointer none, .pointer none =>
    match op, tfind T t with
    | .eql, some ⟨_, .ptr _, _, _⟩ => some (.bool true, True)
    | .neq, some ⟨_, .ptr _, _, _⟩ => some (.bool false, True)
    | _, _ => none
  | _, _ => none
theorem evBin_sound {T : Tab} (hT : TabOk P T) {nw : Bool} {op : BinOp} {x y : Value} {v : Value} {p : Prop} (h : evBin T nw op t x y = some (v, p)) (hp : p) (xo yo : Operand) (w : World) :
    (do eqGuard op t xo yo x y; binOp op t x y : Sem Value).run P w = .ok v w := by
  unfold evBin at h
  split at h
  · rename_i k a k' b
    have hg : (eqGuard op t xo yo (.int k a) (.int k' b)).run P w = .ok () w := by
      unfold eqGuard
      split <;> rfl
    rw [Sem.run_bind, hg]
    split at h
    · have e := Option.some.inj h
      injection e with e1 e2
      rw [← e2] at hp
      rw [← e1, ari_val hp.2]
      have hb : ¬ b < 0 := by omega
      simp [binOp, Op.shift, hb]
    · have e := Option.some.inj h
      injection e with e1 e2
      rw [← e2] at hp
      rw [← e1]
      have hb : ¬ b < 0 := by omega
      simp [binOp, Op.shift, hb]
    · cases hk : Nat.beq (kc k) (kc k') with
      | false => rw [hk] at h; cases h
      | true =>
        rw [hk] at h
        rw [← kc_inj hk]
        exact evInt_sound h hp t w
  · rename_i a b
    have hg : (eqGuard op t xo yo (.bool a) (.bool b)).run P w = .ok () w := by
      unfold eqGuard
      split <;> rfl
    rw [Sem.run_bind, hg]
    split at h
    · rename_i tt s z hf
      have hu := chk_bool (tfind_ok hT hf).2.d
      rw [(tfind_ok hT hf).1] at hu
      have e := Option.some.inj h
      injection e with e1 e2
      subst e1
      rw [tB_eq]
      exact bin_eql w rfl (equal_bool hu a b w)
    · rename_i tt s z hf
      have hu := chk_bool (tfind_ok hT hf).2.d
      rw [(tfind_ok hT hf).1] at hu
      have e := Option.some.inj h
      injection e with e1 e2
      subst e1
      rw [← not_tB, tB_eq]
      exact bin_neq w rfl (equal_bool hu a b w)
    · cases h
  · rename_i a
    have hg : (eqGuard op t xo yo (.pointer (some a)) (.pointer none)).run P w = .ok () w := by
      unfold eqGuard
      split <;> rfl
    rw [Sem.run_bind, hg]
    split at h
    · rename_i tt n s z hf
      obtain ⟨e, hu, _⟩ := chk_ptr (tfind_ok hT hf).2.d
      rw [(tfind_ok hT hf).1] at hu
      have e := Option.some.inj h
      injection e with e1 e2
      subst e1
      exact bin_eql w rfl (equal_nil1 hu a w)
    · rename_i tt n s z hf
      obtain ⟨e, hu, _⟩ := chk_ptr (tfind_ok hT hf).2.d
      rw [(tfind_ok hT hf).1] at hu
      have e := Option.some.inj h
      injection e with e1 e2
      subst e1
      exact bin_neq w rfl (equal_nil1 hu a w)
    · cases h
  · have hg : (eqGuard op t xo yo (.pointer none) (.pointer none)).run P w = .ok () w := by
      unfold eqGuard
      split <;> rfl
    rw [Sem.run_bind, hg]
    split at h
    · rename_i tt n s z hf
      obtain ⟨e, hu, _⟩ := chk_ptr (tfind_ok hT hf).2.d
      rw [(tfind_ok hT hf).1] at hu
      have e := Option.some.inj h
      injection e with e1 e2
      subst e1
      exact bin_eql w rfl (equal_nil2 hu w)
    · rename_i tt n s z hf
      obtain ⟨e, hu, _⟩ := chk_ptr (tfind_ok hT hf).2.d
      rw [(tfind_ok hT hf).1] at hu
      have e := Option.some.inj h
      injection e with e1 e2
      subst e1
      exact bin_neq w rfl (equal_nil2 hu w)
    · cases h
  · cases h
def lenV (T : Tab) (t : Nat) (x : Value) : Option Value :=
  match tfind T t, x with
  | some ⟨_, .slice _ _, _, _⟩, .slice _ n _ => some (.int .i64 n)
  | some ⟨_, .str, _, _⟩, .string s => some (.int .i64 s.size)
  | some ⟨_, .array n _ _, _, _⟩, _ => some (.int .i64 n)
  | some ⟨_, .map, _, _⟩, .map none => some (.int .i64 0)
  | _, _ => none
theorem lenV_sound {T : Tab} (hT : TabOk P T) {x v : Value} (h : lenV T t x = some v) (ty : TypeId) (w : World) : (Builtin.len_ #[t] ty #[x]).run P w = .ok v w := by
  unfold lenV at h
  split at h
  · rename_i tt e n s z a l c hf
    have hu := (chk_slice (tfind_ok hT hf).2.d).1
    rw [(tfind_ok hT hf).1] at hu
    have e := Option.some.inj h
    subst e
    simp [Builtin.len_, run_underlying hu, goInt]
  · rename_i tt s z st hf
    have hu := chk_str (tfind_ok hT hf).2.d
    rw [(tfind_ok hT hf).1] at hu
    have e := Option.some.inj h
    subst e
    simp [Builtin.len_, run_underlying hu, goInt]
  · rename_i tt n e es s z hf
    have hu := (chk_array (tfind_ok hT hf).2.d).1
    rw [(tfind_ok hT hf).1] at hu
    have e := Option.some.inj h
    subst e
    simp [Builtin.len_, run_underlying hu, goInt]
  · rename_i tt s z hf
    obtain ⟨a, b, hu⟩ := chk_map (tfind_ok hT hf).2.d
    rw [(tfind_ok hT hf).1] at hu
    have e := Option.some.inj h
    subst e
    simp [Builtin.len_, run_underlying hu, goInt]
  · cases h
theorem add_lit (g o n : Nat) : (⟨g, o, none⟩ : Addr).add n = ⟨g, o + n, none⟩ := by
  unfold Addr.add; split <;> simp_all
def fieldV (T : Tab) (t : Nat) (x : Value) (i : Nat) : Option Value :=
  match tfind T t, x with
  | some ⟨_, .struct os, _, _⟩, .pointer (some ⟨g, o, none⟩) => match os[i]? with | some (d, _, _) => some (.pointer (some ⟨g, o + d, none⟩)) | none => none
  | _, _ => none
theorem fieldV_sound {T : Tab} (hT : TabOk P T) {x v : Value} {i : Nat} (h : fieldV T t x i = some v) (w : World) : (Instr.fieldAt t x i).run P w = .ok v w := by
  unfold fieldV at h
  split at h
  · rename_i tt os s z g o hf
    obtain ⟨fs, hu, hofs⟩ := chk_struct (tfind_ok hT hf).2.d
    rw [(tfind_ok hT hf).1] at hu
    split at h
    · rename_i d n q hd
      obtain ⟨f, h1, h2, h3, h4, _, _⟩ := offOk_get hofs hd
      have e := Option.some.inj h
      subst e
      have h1' : fs[i]? = some f := by simpa using h1
      simp [Instr.fieldAt, run_underlying hu, h1', Instr.sureAddr, fieldPlace, run_sizeOf h3, h4, add_lit, h2]
    · cases h
  · cases h
/-- The address of an element of a slice. -/
def indexV (T : Tab) (t : Nat) (x i : Value) : Option (Value × Prop) :=
  match tfind T t, x, i with
  | some ⟨_, .slice _ es, _, _⟩, .slice (some ⟨b, o, none⟩) n _, .int _ k => some (.pointer (some ⟨b, o + k.toNat * es, none⟩), 0 ≤ k ∧ k < (n : Int))
  | some ⟨_, .array n _ es, _, _⟩, .pointer (some ⟨b, o, none⟩), .int _ k => some (.pointer (some ⟨b, o + k.toNat * es, none⟩), 0 ≤ k ∧ k < (n : Int))
  | _, _, _ => none
theorem indexV_sound {T : Tab} (hT : TabOk P T) {x i v : Value} {p : Prop} (h : indexV T t x i = some (v, p)) (hp : p) (w : World) : (Instr.indexAt t x i).run P w = .ok v w := by
  unfold indexV at h
  split at h
  · rename_i tt e es s z b o n c k j hf
    obtain ⟨hu, hs⟩ := chk_slice (tfind_ok hT hf).2.d
    rw [(tfind_ok hT hf).1] at hu
    have e := Option.some.inj h
    injection e with e1 e2
    rw [← e2] at hp
    subst e1
    obtain ⟨inf, hi, hsz⟩ := szIs_get hs
    simp [Instr.indexAt, asIntOf, run_underlying hu, hp, sizeOf, typeInfo, hi, hsz, add_lit]
  · rename_i tt n e es s z b o k j hf
    obtain ⟨hu, hs⟩ := chk_array (tfind_ok hT hf).2.d
    rw [(tfind_ok hT hf).1] at hu
    have e := Option.some.inj h
    injection e with e1 e2
    rw [← e2] at hp
    subst e1
    obtain ⟨inf, hi, hsz⟩ := szIs_get hs
    simp [Instr.indexAt, Instr.sureAddr, asIntOf, run_underlying hu, hp, sizeOf, typeInfo, hi, hsz, add_lit]
  · cases h
def convV (T : Tab) (nw : Bool) (s d : Nat) (x : Value) : Option (Value × Prop) :=
  match tfind T s, tfind T d, x with
  | some _, some ⟨_, .int k, _, _⟩, .int _ n => some (ari nw k n)
  | some _, some ⟨_, .str, _, _⟩, .string b => some (.string b, True)
  | _, _, _ => none
theorem und_some {d : TD} (h : chkD P t d = true) : ∃ u, P.underlying t = some u := by
  cases hu : P.underlying t with
  | none => cases d <;> simp [chkD, hu] at h
  | some u => exact ⟨u, rfl⟩
theorem convV_sound {T : Tab} (hT : TabOk P T) {nw : Bool} {s d : Nat} {x v : Value} {p : Prop} (h : convV T nw s d x = some (v, p)) (hp : p) (w : World) : (convert s d x).run P w = .ok v w := by
  unfold convV at h
  split at h
  · rename_i us td k sz z k' n hs hd
    obtain ⟨u, hus⟩ := und_some (tfind_ok hT hs).2.d
    rw [(tfind_ok hT hs).1] at hus
    have hu := chk_int (tfind_ok hT hd).2.d
    rw [(tfind_ok hT hd).1] at hu
    have e := Option.some.inj h
    obtain ⟨rfl, rfl⟩ : v = (ari nw k n).1 ∧ p = (ari nw k n).2 := by rw [e]; exact ⟨rfl, rfl⟩
    rw [ari_val hp]
    cases u <;> simp [convert, run_underlying hus, run_underlying hu, Conv.intToInt]
  · rename_i us td sz z b hs hd
    obtain ⟨u, hus⟩ := und_some (tfind_ok hT hs).2.d
    rw [(tfind_ok hT hs).1] at hus
    have hu := chk_str (tfind_ok hT hd).2.d
    rw [(tfind_ok hT hd).1] at hu
    have e := Option.some.inj h
    injection e with e1 e2
    subst e1
    cases u <;> simp [convert, run_underlying hus, run_underlying hu]
  · cases h
end
end Go.Proofs.Ytkdphoacniigjaa.Gx
