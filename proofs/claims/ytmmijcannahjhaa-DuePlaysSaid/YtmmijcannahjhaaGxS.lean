/- The walk by reckoned steps: facts packed as one; methods on values behind a pointer. -/
import Derived.Test.YtmmijcannahjhaaGxR
namespace Go.Proofs.Ytmmijcannahjhaa.Gx
open Go.RowKit Mem
set_option linter.unusedVariables false
set_option linter.unusedSimpArgs false
def DisL (l : List Fact) : Prop := l.Pairwise fun φ ψ => ∀ b, φ.S b → ¬ ψ.S b
/-- Facts of one's own, side by side, as one. -/
def packF (l : List Fact) : Fact := ⟨fun b => ∃ φ, φ ∈ l ∧ φ.S b, fun w => DisL l ∧ ∀ φ, φ ∈ l → φ.p w, fun w w' h hp => ⟨hp.1, fun φ hφ => φ.loc w w' (fun b hb => h b ⟨φ, hφ, hb⟩) (hp.2 φ hφ)⟩⟩
section
variable {X : Cx} {f : Fr} {E : List Nat} {w0 w w' : World} {O O1 R l : List Fact} {ks k : List KI} {ops lo : List Oper}
theorem Kn.unpack (h : Kn E w0 w (packF l :: O) R) : Kn E w0 w (l ++ O) R := by
  have hp := h.pO _ (.head _)
  refine Kn.andO (l := l) ?_ hp.1
  exact {
    os := h.os
    tape := h.tape
    output := h.output
    size := h.size
    block := h.block
    ownS := fun φ hφ b hb => by
      rcases List.mem_cons.1 hφ with rfl | h1
      · exact h.ownS _ (.head _) b hb
      · exact h.ownS _ (.tail _ h1) b hb
    ltO := fun φ hφ b hb => by
      rcases List.mem_cons.1 hφ with rfl | h1
      · exact h.ltO _ (.head _) b hb
      · exact h.ltO _ (.tail _ h1) b hb
    ltR := h.ltR
    pO := fun φ hφ => by
      rcases List.mem_cons.1 hφ with rfl | h1
      · exact hp.2
      · exact h.pO _ (.tail _ h1)
    pR := h.pR
    disO := List.pairwise_cons.2 ⟨fun ψ hψ b hb => (List.pairwise_cons.1 h.disO).1 ψ hψ b hb, (List.pairwise_cons.1 h.disO).2⟩
    disR := fun φ hφ ψ hψ b h1 h2 => by
      rcases List.mem_cons.1 hφ with rfl | h3
      · exact h.disR _ (.head _) ψ hψ b h1 h2
      · exact h.disR _ (.tail _ h3) ψ hψ b h1 h2 }
theorem Kn.pack (h : Kn E w0 w (l ++ O) R) : Kn E w0 w (packF l :: O) R := by
  have hd : DisL l := (List.pairwise_append.1 h.disO).1
  have h2 := h.andI
  exact {
    os := h2.os
    tape := h2.tape
    output := h2.output
    size := h2.size
    block := h2.block
    ownS := fun φ hφ b hb => by
      rcases List.mem_cons.1 hφ with rfl | h1
      · exact h2.ownS _ (.head _) b hb
      · exact h2.ownS _ (.tail _ h1) b hb
    ltO := fun φ hφ b hb => by
      rcases List.mem_cons.1 hφ with rfl | h1
      · exact h2.ltO _ (.head _) b hb
      · exact h2.ltO _ (.tail _ h1) b hb
    ltR := h2.ltR
    pO := fun φ hφ => by
      rcases List.mem_cons.1 hφ with rfl | h1
      · exact ⟨hd, h2.pO _ (.head _)⟩
      · exact h2.pO _ (.tail _ h1)
    pR := h2.pR
    disO := List.pairwise_cons.2 ⟨fun ψ hψ b hb => (List.pairwise_cons.1 h2.disO).1 ψ hψ b hb, (List.pairwise_cons.1 h2.disO).2⟩
    disR := fun φ hφ ψ hψ b h3 h4 => by
      rcases List.mem_cons.1 hφ with rfl | h5
      · exact h2.disR _ (.head _) ψ hψ b h3 h4
      · exact h2.disR _ (.tail _ h5) ψ hψ b h3 h4 }
theorem gk_unpack (hs : Sel (packF l) O O1) (hg : GK X ks f (l ++ O1) R) : GK X ks f O R := .mk fun a w hr hk => hg.out a w hr (Kn.unpack (hk.perm hs.perm))
theorem g_unpack (hs : Sel (packF l) O O1) (hg : G X ops lo k f (l ++ O1) R) : G X ops lo k f O R := .mk fun a w hr hk => hg.out a w hr (Kn.unpack (hk.perm hs.perm))
/-- Facts of one's own, packed; the rest as it stands. -/
theorem gk_pack (l r : List Fact) (hs : SelAll (l ++ r) O) (hg : GK X ks f (packF l :: r) R) : GK X ks f O R := .mk fun a w hr hk => hg.out a w hr (Kn.pack (hk.sel hs (List.Subset.refl _)))
theorem g_pack (l r : List Fact) (hs : SelAll (l ++ r) O) (hg : G X ops lo k f (packF l :: r) R) : G X ops lo k f O R := .mk fun a w hr hk => hg.out a w hr (Kn.pack (hk.sel hs (List.Subset.refl _)))
theorem Rd1.unpack {φ : Fact} (h : Rd1 w (packF l)) (hm : φ ∈ l) : Rd1 w φ := ⟨h.1.2 φ hm, fun b hb => h.2 b ⟨φ, hm, hb⟩⟩
/-- The beginning of a call that turns packed facts. -/
theorem Kn.startP {R : List Fact} (h : Rd1 w (packF l)) (hE : ∀ b, (packF l).S b → b ∈ E) (hR : ∀ ψ, ψ ∈ R → Rd1 w ψ ∧ ∀ b, (packF l).S b → ¬ ψ.S b) : Kn E w w l R := by
  have := (Kn.startM h hE hR).unpack
  simpa using this
theorem RetM.mkP {σ : Type} {I : σ → Prop} {V : σ → Value} {ll : σ → List Fact} {v : Value} (s : σ) (hi : I s) (hv : v = V s) (h : Kn E w w' O R) (hE : ∀ b, b ∈ E → (packF l).S b) (hm : SelAll (ll s) O) : RetM (packF l) I V (fun s => packF (ll s)) w (.returned v) w' :=
  RetM.mk s hi hv (Kn.pack (O := []) (by simpa using h.sel hm (List.Subset.refl _))) hE (.head _)
theorem own_rdv {α : Type} [Inhabited α] {base e sz : Nat} {v : Value} {enc : α → Nat → Value} {L : List α} (h : Rd1 w (own base e sz v enc L)) : ∃ A c, v = .slice A L.length c ∧ L.length ≤ c ∧ c ≤ maxLen ∧ (A = none → c = 0) ∧ Rd1 w (sl A sz enc L) := by
  have hk : Kn [] w w [] [own base e sz v enc L] := (Rds.cons h .nil).kn
  have ho : OwnL w base e sz v enc L := h.1
  obtain ⟨A, c, hv, hs, h1, h2, h3⟩ := OwnL.sl ho
  refine ⟨A, c, hv, h1, h2, h3.1, hs, fun b hb => ?_⟩
  obtain ⟨_, a, ha, hab⟩ := hb
  exact h.2 b (by
    subst hv
    subst ha
    subst hab
    rfl)
end
/-- A method's function, and whether its receiver is a pointer. -/
def methOf (P : Program) (t : TypeId) (name : String) : Option (FuncId × Bool) :=
  match P.info? t with
  | some i => (match i.methods.find? (·.name == name) with
    | some m => (match m.path.toList, m.func with | [], some fp => some fp | _, _ => none)
    | none => none)
  | none => none
theorem meth_val {P : Program} {t e : TypeId} {name : String} {fid : FuncId} {g off : Nat} {x : Value} {args : List Value} {w : World} (hm : methOf P t name = some (fid, false)) (hu : P.underlying t = some (.pointer e)) (hok : callable P fid = true) (hl : (loadVar e ⟨g, off, none⟩).run P w = .ok x w) :
    (callMethod (.iface t (.pointer (some ⟨g, off, none⟩))) name args.toArray).run P w = .ok (.enter fid (x :: args).toArray) w := by
  unfold methOf at hm
  cases hi : P.info? t with
  | none => rw [hi] at hm; cases hm
  | some i =>
    rw [hi] at hm
    simp only at hm
    cases hf : i.methods.find? (·.name == name) with
    | none => rw [hf] at hm; cases hm
    | some m =>
      rw [hf] at hm
      simp only at hm
      cases hp : m.path.toList with
      | cons _ _ => rw [hp] at hm; simp at hm
      | nil =>
        rw [hp] at hm
        cases hfn : m.func with
        | none => rw [hfn] at hm; simp at hm
        | some fp =>
          rw [hfn] at hm
          have hfp : fp = (fid, false) := by injection hm
          have hpe : m.path = #[] := by apply Array.ext'; simpa using hp
          unfold callable at hok
          split at hok
          · rename_i fn hfn2
            rw [Bool.and_eq_true] at hok
            have hn : ¬ fn.name = "runtime.NumGoroutine" := by simpa using hok.2
            have hb : ¬ fn.body = none := fun e => by rw [e] at hok; simp at hok
            have hb' : fn.body.isNone = false := by
              cases h : fn.body with
              | none => exact absurd h hb
              | some b => rfl
            have hsz : P.types.size + Made.depth = (P.types.size + Made.depth - 1) + 1 := by unfold Made.depth; omega
            have e1 : (#[x] ++ args.toArray) = (x :: args).toArray := by simp
            have hchk : ∀ nm, (Builtin.ssaWrapNilChk_ #[t] t #[.pointer (some ⟨g, off, none⟩), strVal "", strVal nm]).run P w = .ok (.pointer (some ⟨g, off, none⟩)) w := fun nm => rfl
            have hmeth : ∀ n, (method (n + 1) t (.pointer (some ⟨g, off, none⟩)) name).run P w = .ok (fid, x) w := fun n => by
              simp [method, typeInfo, hi, hf, hpe, follow, hfn, hfp, receiverAt, run_underlying hu, Place.get, hchk, asAddr, hl]
            have hprog : (program : Sem Program).run P w = .ok P w := rfl
            unfold callMethod
            simp only [Sem.run_bind, hprog, Result.andThen_ok]
            rw [hsz, hmeth]
            simp [callFunc, hfn2, hn, hb, hb']
          · cases hok
end Go.Proofs.Ytmmijcannahjhaa.Gx

