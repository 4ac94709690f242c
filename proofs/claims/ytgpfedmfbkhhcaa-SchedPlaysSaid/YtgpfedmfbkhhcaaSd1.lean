/- sched.Plan: Now, Stop, Next. -/
import Derived.Test.YtgpfedmfbkhhcaaDv7
import Derived.Test.YtgpfedmfbkhhcaaOpB
namespace Go.Proofs.Ytgpfedmfbkhhcaa.Sd
open Go.RowKit Mem Gx Hp Du Dv OpA
set_option linter.unusedVariables false
set_option linter.unusedSimpArgs false
set_option maxRecDepth 100000
set_option maxHeartbeats 1000000
theorem qu_blk {w : World} {g : Nat} {ru nw : Value} {s : QuS} (h : Rd1 w (quF g ru nw s)) : Rd1 w (blk g [ru, s.v, .map s.mo, nw] 33) := by
  obtain ⟨mo, v, L⟩ := s
  cases mo with
  | none => exact h.unpack (.head _)
  | some r => exact h.unpack (.head _)
theorem pnow_any (g : Nat) (ru : Value) (now : Int) (s : QuS) (w : World) (h : Rd1 w (quF g ru (.int .u64 now) s)) :
    Calls Try.prog 15 [.pointer (some ⟨g, 0, none⟩)].toArray w fun e w' => e = .returned (.int .u64 now) ∧ Below w.heap.size w w' := by
  have hb := qu_blk h
  refine g_enter0 T [] [] [blk g [ru, s.v, .map s.mo, .int .u64 now] 33] Try.func15 rfl Try.ntmps15 rfl (Rds.cons hb .nil).kn ?_
  refine gk_rowR (g := g) mE ?_
  (repeat (refine gG ?_; try intro _))
  refine gk_ret hT rfl rfl (.tmp rfl .nil) (fun w' hk => ?_)
  exact ⟨rfl, hk.toBelow⟩
theorem pstop_any (g : Nat) (ru nw : Value) (s : QuS) (S : List Tim) (i : Int) (w : World) (hs : QuOk s.mo s.L S) (h : Rd1 w (quF g ru nw s)) :
    Calls Try.prog 10 [.pointer (some ⟨g, 0, none⟩), .int .i64 i].toArray w (RetM (quF g ru nw s) (fun q : QuS × Bool => QuOk q.1.mo q.1.L (wo (0, i) S) ∧ q.2 = tB ((0, i) ∈ S.map Tim.key)) (fun q => .bool q.2) (fun q => quF g ru nw q.1) w) := by
  refine g_enter0 T (finE (quF g ru nw s) w) [quF g ru nw s] [] Try.func10 rfl Try.ntmps10 rfl (Kn.startM h (fun b hb => (finE_mem h.2 b).2 hb) (fun ψ hψ => by cases hψ)) ?_
  (repeat (refine gG ?_; try intro _))
  refine g_mv rfl (mv_call_mod (φ := quF g ru nw s) (ψ := fun q : QuS × Bool => quF g ru nw q.1) (fun w1 hk => by exact qcancel_any g ru nw s S (0, i) w1 hs (hk.rO (φ := quF g ru nw s) mE)) rfl rfl rfl rfl rfl (by kernel_rfl) (by intro _; first | ((repeat (first | with_reducible exact Upd.here _ | with_reducible apply Upd.there)); done) | ((repeat (first | exact Upd.here _ | apply Upd.there)); done) | fail) (fun q hq => ?_))
  (repeat (refine gG ?_; try intro _))
  refine gk_ret hT rfl rfl (.tmp rfl .nil) (fun w' hk => ?_)
  exact RetM.mk q hq rfl hk (fun b hb => (finE_mem h.2 b).1 hb) mE
/-- The least time of the timers of the first rules. -/
def Bst (S : List Tim) (k : Nat) (b : Int) (so : Bool) : Prop := (so = false ∧ b = 0 ∧ ∀ x, x ∈ S → ¬ x.i < (k : Int)) ∨ (so = true ∧ (∃ x, x ∈ S ∧ x.i < (k : Int) ∧ x.t = b) ∧ ∀ x, x ∈ S → x.i < (k : Int) → b ≤ x.t)
/-- All timers are rules'. -/
def KOk' (S : List Tim) (n : Nat) : Prop := ∀ x, x ∈ S → x.k = 0 ∧ 0 ≤ x.i ∧ x.i < (n : Int)
theorem at_yes {S : List Tim} (hk : Keys S) {x : Tim} (hx : x ∈ S) : atP x.key S = (x.t, true) := by
  obtain ⟨j, hj⟩ := List.getElem?_of_mem hx
  exact atP_some hk (List.Perm.refl _) hj rfl
theorem at_no {S : List Tim} {p : Int × Int} (h : p ∉ S.map Tim.key) : atP p S = (0, false) := by
  unfold atP
  rw [List.find?_eq_none.2 fun x hx => by
    have : x.key ≠ p := fun e => h (e ▸ List.mem_map_of_mem hx)
    simpa using this]
/-- When something is due next. -/
def nextP : List Tim → Int × Bool
  | [] => (0, false)
  | x :: _ => (x.t, true)
theorem bst_end {S : List Tim} {n : Nat} (hs : S.Pairwise ltT) (hK : KOk' S n) {b : Int} {so : Bool} (h : Bst S n b so) : nextP S = (b, so) := by
  cases S with
  | nil =>
    rcases h with ⟨rfl, rfl, _⟩ | ⟨_, ⟨x, hx, _⟩, _⟩
    · rfl
    · cases hx
  | cons y r =>
    have hy := hK y (.head _)
    rcases h with ⟨_, _, h⟩ | ⟨rfl, ⟨x, hx, _, rfl⟩, h⟩
    · exact absurd hy.2.2 (h y (.head _))
    · have h1 := h y (.head _) hy.2.2
      have h2 : y.t ≤ x.t := by
        rcases List.mem_cons.1 hx with e | e
        · rw [e]; exact Int.le_refl _
        · have h3 := (List.pairwise_cons.1 hs).1 x e
          rw [ltT_iff] at h3
          omega
      show (y.t, true) = (x.t, true)
      rw [show y.t = x.t by omega]
theorem pnext_any (g n c : Nat) (A : Option Addr) (nw : Value) (s : QuS) (S : List Tim) (w : World) (hn : n ≤ 1000) (hs : QuOk s.mo s.L S) (hK : KOk' S n) (h : Rd1 w (quF g (.slice A n c) nw s)) :
    Calls Try.prog 13 [.pointer (some ⟨g, 0, none⟩)].toArray w fun e w' => e = .returned (.tuple #[.int .u64 (nextP S).1, .bool (nextP S).2]) ∧ Below w.heap.size w w' := by
  have hb := qu_blk h
  refine g_enter0 T [] [] [blk g [.slice A n c, s.v, .map s.mo, nw] 33, quF g (.slice A n c) nw s] Try.func13 rfl Try.ntmps13 rfl (Rds.cons hb (.cons h .nil)).kn ?_
  refine gk_rowR (g := g) mE ?_
  (repeat (refine gG ?_; try intro _))
  refine gk_loop_sel (fun (q : Nat × Int × Bool) => match q with | (k, b, so) => (k ≤ n ∧ Bst S k b so)) (fun (q : Nat × Int × Bool) => match q with | (k, b, so) => [(0, .pointer (some ⟨g, 0, none⟩)), (4, .int .u64 b), (5, .bool so), (13, .int .i64 (n : Int)), (14, .int .i64 (k : Int))]) (fun (q : Nat × Int × Bool) => match q with | (k, b, so) => []) (fun (q : Nat × Int × Bool) => match q with | (k, b, so) => [quF g (.slice A n c) nw s]) (fun (q : Nat × Int × Bool) => match q with | (k, b, so) => n - k) (0, 0, false) rfl ⟨Nat.zero_le _, .inl ⟨rfl, rfl, fun x hx h => by have := (hK x hx).2.1; omega⟩⟩ (by repeat (first | exact trivial | refine ⟨rfl, ?_⟩)) sA sS ?_
  rintro ⟨k, b, so⟩ hI
  replace hI : (k ≤ n ∧ Bst S k b so) := hI
  change GK _ _ [(0, .pointer (some ⟨g, 0, none⟩)), (4, .int .u64 b), (5, .bool so), (13, .int .i64 (n : Int)), (14, .int .i64 (k : Int))] [] [quF g (.slice A n c) nw s]
  obtain ⟨hk1, hB⟩ := hI
  by_cases hlt : k < n
  · (repeat' (first | (refine gG ?_; try intro _) | ((first | refine g_split rfl rfl tE (fun _ => ?_) (fun _ => ?_) | refine gk_cond rfl rfl tE (fun _ => ?_) (fun _ => ?_)) <;> (try first | (exfalso; omega; done) | (rename_i hx; exact absurd rfl hx) | (rename_i hx; cases hx; done)))))
    refine g_mv rfl ?_; refine mv_call_bel (fun w hk => qat_any g (.slice A n c) nw s S (0, (k : Int)) w hs (hk.rR (φ := quF g (.slice A n c) nw s) mE)) rfl rfl rfl rfl rfl (by kernel_rfl) ?_
    by_cases hx : (0, (k : Int)) ∈ S.map Tim.key
    · obtain ⟨x, hxS, hxk⟩ := List.mem_map.1 hx
      have e := at_yes hs.keys hxS
      rw [hxk] at e
      rw [e]
      have hxi : x.i = (k : Int) := congrArg Prod.snd hxk
      dsimp only
      rcases hB with ⟨rfl, rfl, hB⟩ | ⟨rfl, ⟨y, hy, hyk, rfl⟩, hB⟩
      · have hB2 : Bst S (k + 1) x.t true := .inr ⟨rfl, ⟨x, hxS, by omega, rfl⟩, fun z hz hzk => by
          have := hB z hz
          have hzi : z.i = x.i := by omega
          have hz0 := (hK z hz).1
          have hx0 := (hK x hxS).1
          have e1 := at_yes hs.keys hz
          have e2 : z.key = (0, (k : Int)) := by show (z.k, z.i) = _; rw [hz0, hzi, hxi]
          rw [e2, e] at e1
          have e3 : x.t = z.t := congrArg Prod.fst e1
          omega⟩
        (repeat' (first | (refine gG ?_; try intro _) | ((first | refine g_split rfl rfl tE (fun _ => ?_) (fun _ => ?_) | refine gk_cond rfl rfl tE (fun _ => ?_) (fun _ => ?_)) <;> (try first | (exfalso; omega; done) | (rename_i hx; exact absurd rfl hx) | (rename_i hx; cases hx; done)))))
        refine gk_say 14 (.int .i64 ((k + 1 : Nat) : Int)) rfl (by first | (congr 1; done) | (congr 1; omega)) ?_
        refine gk_again_sel rfl (k + 1, x.t, true) ⟨hlt, hB2⟩ (by dsimp only; omega) (by repeat (first | exact trivial | refine ⟨rfl, ?_⟩)) sA sS
      · have huq : ∀ z, z ∈ S → z.i = (k : Int) → z.t = x.t := fun z hz hzi => by
          have e1 := at_yes hs.keys hz
          have e2 : z.key = (0, (k : Int)) := by show (z.k, z.i) = _; rw [(hK z hz).1, hzi]
          rw [e2, e] at e1
          exact (congrArg Prod.fst e1).symm
        by_cases hl : x.t < y.t
        · have hB2 : Bst S (k + 1) x.t true := .inr ⟨rfl, ⟨x, hxS, by omega, rfl⟩, fun z hz hzk => by
            by_cases ez : z.i = (k : Int)
            · rw [huq z hz ez]; exact Int.le_refl _
            · have := hB z hz (by omega); omega⟩
          (repeat' (first | (refine gG ?_; try intro _) | ((first | refine g_split rfl rfl tE (fun _ => ?_) (fun _ => ?_) | refine gk_cond rfl rfl tE (fun _ => ?_) (fun _ => ?_)) <;> (try first | (exfalso; omega; done) | (rename_i hx; exact absurd rfl hx) | (rename_i hx; cases hx; done)))))
          refine gk_say 14 (.int .i64 ((k + 1 : Nat) : Int)) rfl (by first | (congr 1; done) | (congr 1; omega)) ?_
          refine gk_again_sel rfl (k + 1, x.t, true) ⟨hlt, hB2⟩ (by dsimp only; omega) (by repeat (first | exact trivial | refine ⟨rfl, ?_⟩)) sA sS
        · have hB2 : Bst S (k + 1) y.t true := .inr ⟨rfl, ⟨y, hy, by omega, rfl⟩, fun z hz hzk => by
            by_cases ez : z.i = (k : Int)
            · rw [huq z hz ez]; omega
            · exact hB z hz (by omega)⟩
          (repeat' (first | (refine gG ?_; try intro _) | ((first | refine g_split rfl rfl tE (fun _ => ?_) (fun _ => ?_) | refine gk_cond rfl rfl tE (fun _ => ?_) (fun _ => ?_)) <;> (try first | (exfalso; omega; done) | (rename_i hx; exact absurd rfl hx) | (rename_i hx; cases hx; done)))))
          refine gk_say 14 (.int .i64 ((k + 1 : Nat) : Int)) rfl (by first | (congr 1; done) | (congr 1; omega)) ?_
          refine gk_again_sel rfl (k + 1, y.t, true) ⟨hlt, hB2⟩ (by dsimp only; omega) (by repeat (first | exact trivial | refine ⟨rfl, ?_⟩)) sA sS
    · rw [at_no hx]
      dsimp only
      have hne : ∀ z, z ∈ S → z.i ≠ (k : Int) := fun z hz e => hx (by
        have e2 : z.key = (0, (k : Int)) := by show (z.k, z.i) = _; rw [(hK z hz).1, e]
        exact e2 ▸ List.mem_map_of_mem hz)
      have hB2 : Bst S (k + 1) b so := by
        rcases hB with ⟨h1, h2, h3⟩ | ⟨h1, ⟨y, hy, hyk, h2⟩, h3⟩
        · exact .inl ⟨h1, h2, fun z hz h4 => h3 z hz (by have := hne z hz; omega)⟩
        · exact .inr ⟨h1, ⟨y, hy, by omega, h2⟩, fun z hz h4 => h3 z hz (by have := hne z hz; omega)⟩
      (repeat' (first | (refine gG ?_; try intro _) | ((first | refine g_split rfl rfl tE (fun _ => ?_) (fun _ => ?_) | refine gk_cond rfl rfl tE (fun _ => ?_) (fun _ => ?_)) <;> (try first | (exfalso; omega; done) | (rename_i hx; exact absurd rfl hx) | (rename_i hx; cases hx; done)))))
      refine gk_say 14 (.int .i64 ((k + 1 : Nat) : Int)) rfl (by first | (congr 1; done) | (congr 1; omega)) ?_
      refine gk_again_sel rfl (k + 1, b, so) ⟨hlt, hB2⟩ (by dsimp only; omega) (by repeat (first | exact trivial | refine ⟨rfl, ?_⟩)) sA sS
  · obtain rfl : k = n := by omega
    have he := bst_end hs.sorted hK hB
    rw [he]
    (repeat' (first | (refine gG ?_; try intro _) | ((first | refine g_split rfl rfl tE (fun _ => ?_) (fun _ => ?_) | refine gk_cond rfl rfl tE (fun _ => ?_) (fun _ => ?_)) <;> (try first | (exfalso; omega; done) | (rename_i hx; exact absurd rfl hx) | (rename_i hx; cases hx; done)))))
    refine gk_ret hT rfl rfl (.tmp rfl (.tmp rfl .nil)) (fun w' hk => ?_)
    exact ⟨rfl, hk.toBelow⟩
end Go.Proofs.Ytgpfedmfbkhhcaa.Sd

