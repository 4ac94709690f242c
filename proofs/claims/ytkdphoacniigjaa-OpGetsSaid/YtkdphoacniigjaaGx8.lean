/- Eighth part: tests that are decided, rounds one by one, strings. -/
import Derived.Test.YtkdphoacniigjaaGx7
namespace Go.Proofs.Ytkdphoacniigjaa.Gx
open Go.RowKit Mem
set_option linter.unusedVariables false
set_option linter.unusedSimpArgs false
section
variable {X : Cx} {f : Fr} {O R : List Fact} {ks k : List KI} {ops rest : List Oper} {o : Oper} {N : Fr → List Fact → List Fact → Prop}
theorem gk_cond_p {c : Operand} {x y : Code} {p : Prop} (h : nx 1000 ks = some (.cond c x y k)) (hc : look X.n f c = some (.bool (tB p))) (hp : p) (hg : GK X (.code x :: k) f O R) : GK X ks f O R :=
  gk_cond_t h (by rw [hc, tB_true hp]) hg
theorem gk_cond_n {c : Operand} {x y : Code} {p : Prop} (h : nx 1000 ks = some (.cond c x y k)) (hc : look X.n f c = some (.bool (tB p))) (hp : ¬ p) (hg : GK X (.code y :: k) f O R) : GK X ks f O R :=
  gk_cond_f h (by rw [hc, tB_false hp]) hg
/-- A guard, or any slot, that is decided. -/
theorem g_dec {t : Nat} {b : Bool} (u : Bool) (hs : gslot ops o.guard = some t) (hl : look X.n f (.tmp t) = some (.bool b)) (hb : b = u) (hg : G X ops (o :: rest) k ((t, .bool u) :: f) O R) : G X ops (o :: rest) k f O R :=
  g_say t (.bool u) hl (by rw [hb]) hg
theorem ga_dec {S : List Fact} {i t : Nat} {b : Bool} (u : Bool) (hs : gslot ops o.guard = some t) (hl : look X.n f (.tmp t) = some (.bool b)) (hb : b = u) (hg : GA X S ops i (o :: rest) k ((t, .bool u) :: f) O R) : GA X S ops i (o :: rest) k f O R :=
  .mk fun hd a w hr hk => hg.out hd a w (hr.re hl (by rw [hb])) hk
theorem gk_rounds (n : Nat) {c : Code} (h : nx 1000 ks = some (.loop c k)) (hg : GK X (.code c :: .inv (Code.rounds X.P c (wpK X.P X.Q k) n) :: k) f O R) : GK X ks f O R := .mk fun a w hr hk =>
  nx_sound h (wp_loop_rounds (n + 1) (by rw [rounds_succ]; exact hg.out a w hr hk))
theorem gk_next {n : Nat} {c : Code} {k' : List KI} (h : nx 1000 ks = some (.inv (Code.rounds X.P c (wpK X.P X.Q k') (n + 1)))) (hg : GK X (.code c :: .inv (Code.rounds X.P c (wpK X.P X.Q k') n) :: k') f O R) : GK X ks f O R := .mk fun a w hr hk =>
  nx_sound h (show Code.rounds X.P c (wpK X.P X.Q k') (n + 1) a w by rw [rounds_succ]; exact hg.out a w hr hk)
/-- A byte of a string, an element of an array at hand. -/
noncomputable def idxV (T : Tab) (t : Nat) (x i : Value) : Option Value :=
  match tfind T t, x, i with
  | some ⟨_, .str, _, _⟩, .string s, .int _ j => (match s.data.toList[j.toNat]? with | some b => some (.int .u8 (b.toNat : Int)) | none => none)
  | _, _, _ => none
theorem yd_index (hT : TabOk X.P X.T) {t : Nat} {x i : Operand} {u j v : Value} {kk : IntKind} {jj : Int} (ho : o.op = .index t x i) (hx : look X.n f x = some u) (hi : look X.n f i = some (.int kk jj)) (hj : 0 ≤ jj) (hv : idxV X.T t u (.int kk jj) = some v) : Yd X f O R o v := fun a w hr hk => by
  unfold idxV at hv
  split at hv
  · rename_i tt s z st k' q hf hq
    obtain ⟨ht, hk1⟩ := tfind_ok hT hf
    simp only at ht
    subst ht
    have hu := chk_str hk1.d
    injection hq with e1 e2
    subst e1
    subst e2
    split at hv
    · rename_i b hb
      injection hv with hv
      subst hv
      have hb' : st[jj.toNat]? = some b := by
        have h1 : jj.toNat < st.data.toList.length := (List.getElem?_eq_some_iff.1 hb).1
        have h2 : jj.toNat < st.size := by simpa using h1
        rw [List.getElem?_eq_getElem h1] at hb
        injection hb with hb
        rw [getElem?_pos st jj.toNat h2]
        congr 1
      simp [execOp, ho, hr.look hx, hr.look hi, Instr.index, asIntOf, run_underlying hu, hj, hb']
    · cases hv
  · cases hv
end
end Go.Proofs.Ytkdphoacniigjaa.Gx
