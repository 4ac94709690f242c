/- free.List: New. -/
import Derived.Test.YteajefmnbalofaaFr5
namespace Go.Proofs.Yteajefmnbalofaa.Hp
open Go.RowKit Mem Gx
set_option linter.unusedVariables false
set_option linter.unusedSimpArgs false
set_option maxRecDepth 100000
set_option maxHeartbeats 4000000
theorem elt_U : Elt Try.prog 63 60 1 4 := Elt.mk' (z := .int .u32 0) Try.underlying63 (by kernel_rfl) rfl (by decide)
def iota (k : Nat) : List Int := (List.range k).map fun (i : Nat) => (i : Int) + 1
theorem iota_succ (k : Nat) : iota (k + 1) = iota k ++ [(k : Int) + 1] := by
  unfold iota
  rw [List.range_succ, List.map_append]
  rfl
theorem iota_mem {k : Nat} {x : Int} (h : x ∈ iota k) : 1 ≤ x ∧ x ≤ k := by
  unfold iota at h
  obtain ⟨i, hi, rfl⟩ := List.mem_map.1 h
  have := List.mem_range.1 hi
  omega
theorem iota_len (k : Nat) : (iota k).length = k := by simp [iota]
theorem ins_end {b : Int} : ∀ {S : List Int}, (∀ x, x ∈ S → x < b) → ins b S = S ++ [b]
  | [], _ => rfl
  | x :: r, h => by
    unfold ins
    rw [if_pos (h x (.head _)), ins_end fun y hy => h y (.tail _ hy)]
    rfl
theorem give_iota (k : Nat) : giveP ((k : Int) + 1) (iota k) = (iota (k + 1), true) := by
  rw [give_yes (by
    rintro (h | h)
    · omega
    · have := iota_mem h; omega), ins_end (fun x hx => by have := iota_mem hx; omega), iota_succ]
theorem iota_sorted : ∀ k, (iota k).Pairwise (· < ·)
  | 0 => .nil
  | k + 1 => by
    rw [iota_succ]
    refine List.pairwise_append.2 ⟨iota_sorted k, List.pairwise_singleton _ _, fun a ha b hb => ?_⟩
    obtain rfl := List.mem_singleton.1 hb
    have := iota_mem ha
    omega
theorem lnew_bad (n : Int) (w : World) (hn : n < 0 ∨ 4096 < n) : Calls Try.prog 64 [.int .i64 n].toArray w fun e w' => e = .returned (.tuple #[.pointer none, .int .i64 10]) ∧ Below w.heap.size w w' := by
  refine g_enter0 T [] [] [] Try.func64 rfl Try.ntmps64 rfl (Kn.start _) ?_
  (repeat' (first | (refine gG ?_; try intro _) | ((first | refine g_split rfl rfl tE (fun _ => ?_) (fun _ => ?_) | refine gk_cond rfl rfl tE (fun _ => ?_) (fun _ => ?_)) <;> (try first | (exfalso; omega; done) | (rename_i hx; exact absurd rfl hx) | (rename_i hx; cases hx; done)))))
  all_goals refine gk_ret hT rfl rfl (.tmp rfl (.tmp rfl .nil)) (fun w' hk => ?_)
  all_goals exact ⟨rfl, hk.toBelow⟩
theorem gk_triv {X : Cx} {f : Fr} {O R : List Fact} {ks : List KI} (ψ : Fact) (hp : ∀ w, ψ.p w) (hn : ∀ b, ¬ ψ.S b) (hg : GK X ks f (ψ :: O) R) : GK X ks f O R := .mk fun a w hr hk => hg.out a w hr (hk.addO ψ (hp w) hn)
theorem lnew_any (n : Nat) (w : World) (hn : n ≤ 4096) : Calls Try.prog 64 [.int .i64 (n : Int)].toArray w (Ret (fun q : Nat × FrS => FrOk q.2 (iota n)) (fun q => .tuple #[.pointer (some ⟨q.1, 0, none⟩), .int .i64 0]) (fun q => [packF (frF q.1 q.2)]) w) := by
  refine g_enter0 T [] [] [] Try.func64 rfl Try.ntmps64 rfl (Kn.start _) ?_
  (repeat' (first | (refine gG ?_; try intro _) | ((first | refine g_split rfl rfl tE (fun _ => ?_) (fun _ => ?_) | refine gk_cond rfl rfl tE (fun _ => ?_) (fun _ => ?_)) <;> (try first | (exfalso; omega; done) | (rename_i hx; exact absurd rfl hx) | (rename_i hx; cases hx; done)))))
  rename_i g
  refine gk_own 0 60 1 (IE .u32) ?_
  refine gk_pack (frL g [.map none] 129 (.slice none 0 0) []) [] sA ?_
  have h0 : FrOk ⟨none, .slice none 0 0, [], []⟩ (iota 0) := ⟨List.Perm.refl _, List.Perm.refl _, .nil, fun k h0 hk => absurd hk (Nat.not_lt_zero _), fun _ => rfl, Nat.zero_le _⟩
  refine gk_triv (mpo none []) (fun _ => rfl) (fun b h => h) ?_
  refine gk_pack (frF g ⟨none, .slice none 0 0, [], []⟩) [] (sA : SelAll [packF (frL g [.map none] 129 (.slice none 0 0) []), mpo none []] _) ?_
  refine gk_loop_sel (fun (q : Nat × FrS) => match q with | (k, s) => (k ≤ n ∧ FrOk s (iota k))) (fun (q : Nat × FrS) => match q with | (k, s) => [(4, .pointer (some ⟨g, 0, none⟩)), (14, .int .i64 n), (15, .int .i64 k)]) (fun (q : Nat × FrS) => match q with | (k, s) => [packF (frF g s)]) (fun (q : Nat × FrS) => match q with | (k, s) => []) (fun (q : Nat × FrS) => match q with | (k, s) => n - k) (0, ⟨none, .slice none 0 0, [], []⟩) rfl ⟨Nat.zero_le _, h0⟩ (by repeat (first | exact trivial | refine ⟨rfl, ?_⟩)) sA sS ?_
  rintro ⟨k, s⟩ hI
  replace hI : (k ≤ n ∧ FrOk s (iota k)) := hI
  change GK _ _ [(4, .pointer (some ⟨g, 0, none⟩)), (14, .int .i64 n), (15, .int .i64 k)] [packF (frF g s)] []
  obtain ⟨hk1, hs⟩ := hI
  by_cases hlt : k < n
  · (repeat (refine gG ?_; try intro _))
    refine gk_cond rfl rfl (tells_tB _) (fun _ => ?_) (fun h => absurd (by omega) h)
    (repeat (refine gG ?_; try intro _))
    refine g_mv rfl (mv_call_mod (φ := packF (frF g s)) (ψ := fun q : FrS × Bool => packF (frF g q.1)) (fun w hk => lgive_any g s (iota k) ((k : Int) + 1) w hs (by rw [iota_len]; omega) (hk.rO (φ := packF (frF g s)) mE)) rfl rfl rfl rfl rfl (by kernel_rfl) (by intro _; first | ((repeat (first | with_reducible exact Upd.here _ | with_reducible apply Upd.there)); done) | ((repeat (first | exact Upd.here _ | apply Upd.there)); done) | fail) (fun q hI => ?_))
    obtain ⟨s1, b1⟩ := q
    obtain ⟨h1, h2⟩ := hI
    rw [give_iota] at h1 h2
    (repeat (refine gG ?_; try intro _))
    refine gk_again_sel rfl (k + 1, s1) ⟨by omega, h1⟩ (by dsimp only; omega) (by repeat (first | exact trivial | refine ⟨rfl, ?_⟩)) sA sS
  · obtain rfl : k = n := by omega
    (repeat (refine gG ?_; try intro _))
    refine gk_cond rfl rfl (tells_tB _) (fun h => absurd h (by omega)) (fun _ => ?_)
    (repeat (refine gG ?_; try intro _))
    refine gk_ret hT rfl rfl (.tmp rfl (.tmp rfl .nil)) (fun w' hk => ?_)
    exact Ret.mk (g, s) hs rfl hk sA
end Go.Proofs.Yteajefmnbalofaa.Hp

