/- Law 58: alive. -/
import Derived.Test.YtgpfedmfbkhhcaaSd8
namespace Go.Proofs.Ytgpfedmfbkhhcaa.Sd
open Go.RowKit Mem Gx Hp Du Dv OpA
set_option linter.unusedVariables false
set_option linter.unusedSimpArgs false
set_option maxRecDepth 100000
set_option maxHeartbeats 1000000
theorem Kn.apart {E : List Nat} {w0 w : World} {O R : List Fact} {φ ψ : Fact} (h : Kn E w0 w O R) (hs : SelAll [φ, ψ] O) : ∀ b, φ.S b → ¬ ψ.S b := by
  have h1 := (h.sel (R' := []) hs (List.nil_subset _)).disO
  exact (List.pairwise_cons.1 h1).1 ψ (.head _)
theorem z_ok' : QuOk none [] [] := ⟨List.Perm.refl _, List.nodup_nil, .nil, fun k h0 hk => absurd hk (Nat.not_lt_zero _), fun _ => rfl, Nat.zero_le _⟩
theorem der_snocR {L : List RuD} {f e : Int} {p : OpD} : Der [allF L (fun r => faF r.o), faF p] (allF (L ++ [⟨f, e, p⟩]) (fun r => faF r.o)) := .all fun x hx => by
  rcases List.mem_append.1 hx with h | h
  · exact Der.elem (L := L) (.mem (.head _)) h
  · obtain rfl := List.mem_singleton.1 h
    exact .mem (.tail _ (.head _))
theorem der_snocM {L : List RuD} {f e : Int} {p : OpD} : Der [allF L (fun r => fmF r.o), fmF p] (allF (L ++ [⟨f, e, p⟩]) (fun r => fmF r.o)) := .all fun x hx => by
  rcases List.mem_append.1 hx with h | h
  · exact Der.elem (L := L) (.mem (.head _)) h
  · obtain rfl := List.mem_singleton.1 h
    exact .mem (.tail _ (.head _))
theorem der_nilR {F : RuD → Fact} {l : List Fact} : Der l (allF ([] : List RuD) F) := .all fun x hx => by cases hx
theorem alive58 (w : World) : Calls Try.prog 16 [].toArray w fun e w' => e = .returned (.bool true) ∧ Below w.heap.size w w' := by
  refine g_enter0 T [] [] [] Try.func16 rfl Try.ntmps16 rfl (Kn.start _) ?_
  (repeat (refine gG ?_; try intro _))
  rename_i g
  refine g_own 0 87 3 TE ?_
  refine g_pack (quL g (.slice none 0 0) (.int .u64 0) ⟨none, .slice none 0 0, []⟩) [] (sA : SelAll [blk g [.slice none 0 0, .slice none 0 0, .map none, .int .u64 0] 33, own 0 87 3 (.slice none 0 0) TE ([] : List Tim)] _) ?_
  refine g_own 0 40 10 RuE ?_
  refine g_pack (plL g (⟨.slice none 0 0, ⟨none, .slice none 0 0, []⟩, 0, []⟩ : PlD)) [] sA ?_
  refine g_nilsl none 1 (IE .u8) ?_
  refine g_nilsl none 1 (IE .i64) ?_
  refine g_mv rfl (mv_call_mod (φ := plF g (⟨.slice none 0 0, ⟨none, .slice none 0 0, []⟩, 0, []⟩ : PlD)) (ψ := fun q : PlD × OpD => packF [quF g q.1.ru (.int .u64 q.1.now) q.1.s, own 0 40 10 q.1.ru RuE q.1.L, faF q.2, fmF q.2]) (fun w hk => by exact padd_ok g (⟨.slice none 0 0, ⟨none, .slice none 0 0, []⟩, 0, []⟩ : PlD) [] (⟨2, 3, ⟨14, 0, 0, 0, 0, 0, ⟨none, 0, 0⟩, [], ⟨none, 0, 0⟩, []⟩⟩ : RuD) w ⟨⟨rfl, by decide, by decide, fun _ => rfl⟩, ⟨rfl, by decide, by decide, fun _ => rfl⟩⟩ (hk.rO (φ := sl none 1 (IE .u8) ([] : List Int)) mE) (hk.rO (φ := sl none 1 (IE .i64) ([] : List Int)) mE) (by decide) (by decide) (by decide) (by decide) z_ok' (fun b hb => ⟨fun h => absurd h.1 (Nat.lt_irrefl 0), fun h => absurd h.1 (Nat.lt_irrefl 0)⟩) (by simp [rrightB, tB_eq, show looks 14 = [] from rfl]) (by decide) (hk.rO (φ := plF g (⟨.slice none 0 0, ⟨none, .slice none 0 0, []⟩, 0, []⟩ : PlD)) mE)) rfl rfl rfl rfl rfl (by kernel_rfl) (by intro _; first | ((repeat (first | with_reducible exact Upd.here _ | with_reducible apply Upd.there)); done) | ((repeat (first | exact Upd.here _ | apply Upd.there)); done) | fail) (fun q hq => ?_))
  obtain ⟨⟨ru1, s1, now1, L1⟩, p⟩ := q
  obtain ⟨h1, h2, h3, h4⟩ := hq
  replace h1 : QuOk s1.mo s1.L (setP ⟨2, 0, 0⟩ []) := h1
  replace h2 : now1 = 0 := h2
  replace h3 : L1 = [⟨2, 3, p⟩] := h3
  subst h2
  subst h3
  refine g_unpack (l := [quF g ru1 (.int .u64 0) s1, own 0 40 10 ru1 RuE [⟨2, 3, p⟩], faF p, fmF p]) (by repeat (first | with_reducible exact Sel.here | with_reducible apply Sel.there)) ?_
  refine g_ownv ru1 mE (fun A1 c1 hv _ _ _ => ?_)
  subst hv
  refine g_derO [faF p] [quF g (.slice A1 1 c1) (.int .u64 0) s1, own 0 40 10 (.slice A1 1 c1) RuE [⟨2, 3, p⟩], fmF p] (φ := allF [(⟨2, 3, p⟩ : RuD)] (fun r => faF r.o)) (.all fun x hx => by obtain rfl := List.mem_singleton.1 hx; exact .mem (.head _)) sA ?_
  refine g_derO [fmF p] [allF [(⟨2, 3, p⟩ : RuD)] (fun r => faF r.o), quF g (.slice A1 1 c1) (.int .u64 0) s1, own 0 40 10 (.slice A1 1 c1) RuE [⟨2, 3, p⟩]] (φ := allF [(⟨2, 3, p⟩ : RuD)] (fun r => fmF r.o)) (.all fun x hx => by obtain rfl := List.mem_singleton.1 hx; exact .mem (.head _)) sA ?_
  refine g_pack (plL g ⟨.slice A1 1 c1, s1, 0, [⟨2, 3, p⟩]⟩) [allF [(⟨2, 3, p⟩ : RuD)] (fun r => fmF r.o), allF [(⟨2, 3, p⟩ : RuD)] (fun r => faF r.o)] sA ?_
  have hO : RuOk ⟨2, 3, p⟩ := ⟨by show (0 : Int) ≤ 3; decide, by show (3 : Int) ≤ 18446744073709551615; decide, h4.ok, by have := PlainAt.lenD h4; simp at this; simp [this], by have := PlainAt.lenM h4; simp at this; simp [this]⟩
  (repeat' (first | (refine gG ?_; try intro _) | ((first | refine g_split rfl rfl tE (fun _ => ?_) (fun _ => ?_) | refine gk_cond rfl rfl tE (fun _ => ?_) (fun _ => ?_)) <;> (try first | (exfalso; omega; done) | (rename_i hx; exact absurd rfl hx) | (rename_i hx; cases hx; done)))))
  refine g_mv rfl (mv_call_mod (φ := plF g ⟨.slice A1 1 c1, s1, 0, [⟨2, 3, p⟩]⟩) (ψ := fun q : UnD => packF (unL g (.slice A1 1 c1) [⟨2, 3, p⟩] q)) (fun w hk => by exact puntil_any g A1 c1 [⟨2, 3, p⟩] s1 (setP ⟨2, 0, 0⟩ []) 0 9 100 w h1 (fun x hx => by obtain rfl := List.mem_singleton.1 (show x ∈ [⟨2, 0, 0⟩] from hx); exact ⟨rfl, Int.le_refl _, (by show (0 : Int) < 1; decide), (by decide), (by decide)⟩) (by show (setP ⟨2, 0, 0⟩ []).length ≤ 1; decide) (by show 1 ≤ 1000; decide) (by decide) (by decide) (fun r hr => by obtain rfl := List.mem_singleton.1 hr; exact hO) (fun b hb => ⟨Kn.apart hk sA b hb, Kn.apart hk sA b hb⟩) (hk.rO (φ := plF g ⟨.slice A1 1 c1, s1, 0, [⟨2, 3, p⟩]⟩) mE) (hk.rO (φ := allF [(⟨2, 3, p⟩ : RuD)] (fun r => faF r.o)) mE) (hk.rO (φ := allF [(⟨2, 3, p⟩ : RuD)] (fun r => fmF r.o)) mE)) rfl rfl rfl rfl rfl (by kernel_rfl) (by intro _; first | ((repeat (first | with_reducible exact Upd.here _ | with_reducible apply Upd.there)); done) | ((repeat (first | exact Upd.here _ | apply Upd.there)); done) | fail) (fun q hq => ?_))
  obtain ⟨s2, now2, A2, c2, out⟩ := q
  obtain ⟨_, q2, q3⟩ := hq
  have e : unP [3] 9 100 (setP ⟨2, 0, 0⟩ []) 0 = ([⟨11, 0, 0⟩], [0, 0, 0], 9) := by decide
  rw [show [(⟨2, 3, p⟩ : RuD)].map RuD.e = [3] from rfl, e] at q2 q3
  replace q2 : now2 = 9 := q2
  subst q2
  have hl : out.length = 3 := q3.len.symm
  refine g_unpack (l := unL g (.slice A1 1 c1) [⟨2, 3, p⟩] ⟨s2, 9, A2, c2, out⟩) (by repeat (first | with_reducible exact Sel.here | with_reducible apply Sel.there)) ?_
  dsimp only [unL, List.cons_append, List.nil_append]
  (repeat' (first | (refine gG ?_; try intro _) | (refine g_mv rfl ?_; first | refine mv_call_bel (fun w hk => pnow_any g (.slice A1 1 c1) 9 s2 w (hk.rO (φ := quF g (.slice A1 1 c1) (.int .u64 9) s2) mE)) rfl rfl rfl rfl rfl (by kernel_rfl) ?_) | ((first | refine g_split rfl rfl tE (fun _ => ?_) (fun _ => ?_) | refine gk_cond rfl rfl tE (fun _ => ?_) (fun _ => ?_)) <;> (try first | (exfalso; omega; done) | (rename_i hx; exact absurd rfl hx) | (rename_i hx; cases hx; done)))))
  refine gk_ret hT rfl rfl (.tmp rfl .nil) (fun w' hk => ?_)
  exact ⟨congrArg (fun b => Ending.returned (.bool b)) (tB_true rfl), hk.toBelow⟩
end Go.Proofs.Ytgpfedmfbkhhcaa.Sd

