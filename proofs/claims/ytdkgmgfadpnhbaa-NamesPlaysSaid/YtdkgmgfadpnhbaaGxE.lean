/- Maps: an entry that wasn't there, and its store. -/
import Derived.Test.YtdkgmgfadpnhbaaGxY
namespace Go.Proofs.Ytdkgmgfadpnhbaa.Gx
open Go.RowKit Mem
set_option linter.unusedVariables false
set_option linter.unusedSimpArgs false
section
variable {K : Type} [DecidableEq K] {ek : K → Value}
theorem run_mapEntryN {P : Program} {t tk te : TypeId} (ht : P.underlying t = some (.map tk te)) (hu : KOk P tk ek) {z : Value} (hz : ∀ w, (zeroValue te).run P w = .ok z w) (r : Nat) (k : K) (M : List (K × Value)) (hl : lkG k M 0 = none) (w : World) (h : (mpk r ek M).p w) :
    ∃ (es : Array MapEntry) (ck : Nat) (B : List Nat), (Instr.mapEntry t (.map (some r)) (ek k)).run P w = .ok (.tuple #[z, goInt ck]) (w.putObj r (.map es (ck + 1))) ∧ B.length = M.length ∧ Es ek es (ck + 1) (M ++ [(k, z)]) (B ++ [ck]) := by
  obtain ⟨es, ck, h1, B, h2⟩ := h
  have h3 := hu.find k es.toList M w h2.kv
  have h4 := fun b => hu.check b k w
  rw [hl] at h3
  refine ⟨es.push { key := ek k, val := z, born := ck }, ck, B, ?_, h2.size.2, h2.push k z⟩
  unfold Instr.mapEntry
  simp [run_underlying ht, getObj, setObj, Sem.run, h1, h3, h4, hz, World.putObj]
variable {X : Cx} {f : Fr} {O O' R : List Fact} {ks k : List KI} {ops rest : List Oper} {o : Oper} {S : List Fact} {N : Fr → List Fact → List Fact → Prop}
/-- An entry that wasn't there. -/
theorem mv_mapEntryN {dd : Nat} (hd : o.dst = some dd) {ty tk te r : Nat} {m x : Operand} (q : K) {u0 z : Value} {M : List (K × Value)} (ho : o.op = .mapEntry ty m x) (hm : look X.n f m = some (.map (some r))) (hx : look X.n f x = some u0) (hq : u0 = ek q)
    (ht : X.P.underlying ty = some (.map tk te)) (hu : KOk X.P tk ek) (hz : ∀ w, (zeroValue te).run X.P w = .ok z w) (hl : lkG q M 0 = none) {OO : List Nat → Nat → List Fact} (hU : ∀ (B : List Nat) (b : Nat), Upd (mpk r ek M) (mpb r ek (M ++ [(q, z)]) (B ++ [b])) O (OO B b)) (hg : ∀ (B : List Nat) (b : Nat), B.length = M.length → N ((dd, .tuple #[z, goInt b]) :: f) (OO B b) R) : Mv X f O R o N := fun a w hr hk K Q hK => by
  subst hq
  obtain ⟨es, ck, B, h1, h2, h3⟩ := run_mapEntryN (P := X.P) ht hu hz r q M hl w (hk.pO _ (hU [] 0).mem)
  have hlt : r < w.heap.size := hk.ltO _ (hU [] 0).mem r rfl
  unfold Oper.wp
  have : (execOp a.eval o).run X.P w = .ok (.value (.tuple #[z, goInt ck])) (w.putObj r (.map es (ck + 1))) := by
    simp [execOp, ho, hr.look hm, hr.look hx, h1]
  rw [this]
  refine hK _ _ _ _ _ (hg B ck h2) (hr.put1 hd _) (hk.upd (hU B ck) rfl rfl rfl (by simp) (fun b hb hne => World.putObj_heap_other (fun e => hne e)) ⟨es, ck + 1, World.putObj_heap_same hlt, h3⟩ (fun b hb => ?_))
  have : b = r := hb
  subst this
  exact ⟨.inl rfl, by simpa using hlt⟩
end
section
variable {K : Type}
theorem new_at {M : List (K × Value)} {q : K} {z : Value} : (M ++ [(q, z)])[M.length]? = some (q, z) := by simp
theorem new_set {M : List (K × Value)} {q : K} {z v : Value} : (M ++ [(q, z)]).set M.length (q, v) = M ++ [(q, v)] := by simp
theorem new_B {M : List (K × Value)} {B : List Nat} {b : Nat} (h : B.length = M.length) : (B ++ [b])[M.length]? = some b := by rw [← h]; simp
section
variable {ek : K → Value} {X : Cx} {f : Fr} {O O' R : List Fact} {o : Oper} {N : Fr → List Fact → List Fact → Prop}
/-- The store of an entry that is new. -/
theorem mv_entryStoreN (hd : o.dst = none) {ty r : Nat} {m x y : Operand} {z v : Value} {q : K} {M : List (K × Value)} {B : List Nat} {b : Nat} (ho : o.op = .entryStore ty m x y) (hm : look X.n f m = some (.map (some r))) (hx : look X.n f x = some (goInt b)) (hy : look X.n f y = some v)
    (hB : B.length = M.length) (hU : Upd (mpb r ek (M ++ [(q, z)]) (B ++ [b])) (mpb r ek (M ++ [(q, v)]) (B ++ [b])) O O') (hg : N f O' R) : Mv X f O R o N :=
  mv_entryStoreG (k := q) (u := z) (j := M.length) hd ho hm hx hy new_at (new_B hB) (by rw [new_set]; exact hU) hg
end
end
end Go.Proofs.Ytdkgmgfadpnhbaa.Gx

