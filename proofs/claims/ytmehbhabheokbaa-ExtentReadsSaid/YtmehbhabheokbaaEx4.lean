/- Runs as a text. -/
import Derived.Test.YtmehbhabheokbaaExT
namespace Go.Proofs.Ytmehbhabheokbaa.Ex
open Go.RowKit Mem Gx Dd
set_option linter.unusedVariables false
set_option linter.unusedSimpArgs false
set_option maxRecDepth 100000
set_option maxHeartbeats 1000000
/-- One run. -/
def txtR (r : RunD) : List Int := dgs r.f.toNat ++ (if 1 < r.m then 45 :: dgs (r.f + r.m - 1).toNat else [])
def txtN (L : List RunD) : Nat → List Int
  | 0 => []
  | i + 1 => (match L[i]? with
    | some r => txtN L i ++ ((if 0 < i then [44] else []) ++ txtR r)
    | none => txtN L i)
def txt (L : List RunD) : List Int := txtN L L.length
theorem txtN_step {L : List RunD} {i : Nat} {r : RunD} (h : L[i]? = some r) : txtN L (i + 1) = txtN L i ++ ((if 0 < i then [44] else []) ++ txtR r) := by rw [txtN, h]
theorem dgs_len5 {n : Nat} (h : n ≤ 8193) : (dgs n).length ≤ 4 := by
  unfold dgs
  rw [List.length_map]
  exact digs_len n 3 (by omega)
theorem txtR_len {r : RunD} (h : 1 ≤ r.m ∧ r.m ≤ 4097 ∧ 0 ≤ r.f ∧ r.f ≤ 4096) : (txtR r).length ≤ 9 := by
  have h1 := dgs_len5 (n := r.f.toNat) (by omega)
  have h2 := dgs_len5 (n := (r.f + r.m - 1).toNat) (by omega)
  unfold txtR
  split <;> simp only [List.length_append, List.length_cons, List.length_nil] <;> omega
theorem txtN_len {L : List RunD} (h : ∀ r ∈ L, 1 ≤ r.m ∧ r.m ≤ 4097 ∧ 0 ≤ r.f ∧ r.f ≤ 4096) (i : Nat) (hi : i ≤ L.length) : (txtN L i).length ≤ 10 * i := by
  induction i with
  | zero => simp [txtN]
  | succ i ih =>
    obtain ⟨r, hr⟩ : ∃ r, L[i]? = some r := ⟨_, List.getElem?_eq_getElem (by omega)⟩
    have h1 := ih (by omega)
    have h2 := txtR_len (h r (List.mem_of_getElem? hr))
    rw [txtN_step hr]
    split <;> simp only [List.length_append, List.length_cons, List.length_nil] <;> omega
/-- The text of runs that are a set. -/
noncomputable def txtP (L : List RunD) : List Int := if tB (rightE (-1) L) then txt L else []
theorem xtext_any (A : Option Addr) (n c : Nat) (L : List RunD) (w : World) (hn : n = L.length) (h9 : n ≤ 1000) (hs : Rd1 w (sl A 2 RE L)) :
    Calls Try.prog 54 [.slice A n c].toArray w fun e w' => e = .returned (.string (strOfNums (txtP L))) ∧ Below w.heap.size w w' := by
  refine g_enter0 T [] [] [sl A 2 RE L] Try.func54 rfl Try.ntmps54 rfl (Rds.cons hs .nil).kn ?_
  by_cases hr : rightE (-1) L
  · have e : txtP L = txt L := by unfold txtP; rw [tB_true hr]; rfl
    have hm := rightE_m hr
    rw [e]
    (repeat' (first | (refine gG ?_; try intro _) | (refine g_mv rfl ?_; first | refine mv_call_bel (fun w hk => by have hc := xright_any A n c L w hn (by omega) (hk.rR mE); rw [tB_true hr] at hc; exact hc) rfl rfl rfl rfl rfl (by kernel_rfl) ?_) | ((first | refine g_split rfl rfl tE (fun _ => ?_) (fun _ => ?_) | refine gk_cond rfl rfl tE (fun _ => ?_) (fun _ => ?_)) <;> (try first | (exfalso; omega; done) | (rename_i hx; exact absurd rfl hx) | (rename_i hx; cases hx; done)))))
    refine gk_loop_sel (fun (q : Nat × Unit) => match q with | (i, z) => (i ≤ n)) (fun (q : Nat × Unit) => match q with | (i, z) => [(3, .string (strOfNums (txtN L i))), (9, .slice A n c), (10, .int .i64 (n : Int)), (11, .int .i64 (i : Int))]) (fun (q : Nat × Unit) => match q with | (i, z) => []) (fun (q : Nat × Unit) => match q with | (i, z) => [sl A 2 RE L]) (fun (q : Nat × Unit) => match q with | (i, z) => n - i) (0, ()) rfl (Nat.zero_le _) (by repeat (first | exact trivial | refine ⟨rfl, ?_⟩)) sA sS ?_
    rintro ⟨i, z⟩ hI
    replace hI : (i ≤ n) := hI
    change GK _ _ [(3, .string (strOfNums (txtN L i))), (9, .slice A n c), (10, .int .i64 (n : Int)), (11, .int .i64 (i : Int))] [] [sl A 2 RE L]
    by_cases hlt : i < n
    · obtain ⟨r, hr⟩ : ∃ r, L[i]? = some r := ⟨L[i], List.getElem?_eq_getElem (by omega)⟩
      have hmr := hm r (List.mem_of_getElem? hr)
      have hlen := txtN_len hm i (by omega)
      have hst := txtN_step hr
      have hl1 := dgs_len5 (n := r.f.toNat) (by omega)
      have hl2 := dgs_len5 (n := (r.f + r.m - 1).toNat) (by omega)
      refine gk_elem (enc := RE) (L := L) i mE (by omega) (by decide) (fun b o y eA hy => ?_)
      subst eA
      obtain rfl : r = y := by rw [hr] at hy; exact Option.some.inj hy
      generalize txtN L i = M at hlen hst ⊢
      generalize hC : (if 0 < i then [44] else [] : List Int) = C at hst
      have hCl : C.length ≤ 1 := by rw [← hC]; split <;> simp
      rcases Nat.eq_zero_or_pos i with h0 | h0
      · have hC0 : C = [] := by rw [← hC, if_neg (by omega)]
        obtain ⟨P, hP⟩ : ∃ P, P = M ++ C := ⟨_, rfl⟩
        have hPl : P.length ≤ 10 * i + 1 := by rw [hP, List.length_append]; omega
        rw [show M = P by rw [hP, hC0, List.append_nil]]
        (repeat' (first | (refine gG ?_; try intro _) | ((first | refine g_split rfl rfl tE (fun _ => ?_) (fun _ => ?_) | refine gk_cond rfl rfl tE (fun _ => ?_) (fun _ => ?_)) <;> (try first | (exfalso; omega; done) | (rename_i hx; exact absurd rfl hx) | (rename_i hx; cases hx; done)))))
        refine g_say 23 (.int .u64 ((r.f.toNat : Nat) : Int)) rfl (by show Value.int .u64 _ = Value.int .u64 _; congr 1; omega) ?_
        refine g_mv rfl (mv_call_bel (fun w hk => tnum_any r.f.toNat (by omega) w) rfl rfl rfl rfl rfl (by kernel_rfl) ?_)
        (repeat (refine gG ?_; try intro _))
        refine g_yd rfl rfl (Ys.yd (ys_sx_add (L := P) (M := dgs r.f.toNat) rfl rfl rfl rfl rfl (by omega))) ?_
        by_cases h1 : 1 < r.m
        · have hR : txtR r = dgs r.f.toNat ++ 45 :: dgs (r.f + r.m - 1).toNat := by unfold txtR; rw [if_pos h1]
          (repeat' (first | (refine gG ?_; try intro _) | ((first | refine g_split rfl rfl tE (fun _ => ?_) (fun _ => ?_) | refine gk_cond rfl rfl tE (fun _ => ?_) (fun _ => ?_)) <;> (try first | (exfalso; omega; done) | (rename_i hx; exact absurd rfl hx) | (rename_i hx; cases hx; done)))))
          refine g_say 36 (.int .u64 (((r.f + r.m - 1).toNat : Nat) : Int)) rfl (by show Value.int .u64 _ = Value.int .u64 _; congr 1; omega) ?_
          refine g_mv rfl (mv_call_bel (fun w hk => tnum_any (r.f + r.m - 1).toNat (by omega) w) rfl rfl rfl rfl rfl (by kernel_rfl) ?_)
          (repeat (refine gG ?_; try intro _))
          refine g_yd rfl rfl (Ys.yd (ys_sx_add (L := [45]) (M := dgs (r.f + r.m - 1).toNat) rfl rfl rfl rfl rfl (by simp only [List.length_cons, List.length_nil]; omega))) ?_
          refine g_yd rfl rfl (Ys.yd (ys_sx_add (L := P ++ dgs r.f.toNat) (M := [45] ++ dgs (r.f + r.m - 1).toNat) rfl rfl rfl rfl rfl (by simp only [List.length_append, List.length_cons, List.length_nil]; omega))) ?_
          (repeat (refine gG ?_; try intro _))
          refine gk_say 11 (.int .i64 ((i + 1 : Nat) : Int)) rfl (by first | (congr 1; done) | (congr 1; omega)) ?_
          refine gk_say 3 (.string (strOfNums (txtN L (i + 1)))) rfl (by rw [hst, hR, ← List.append_assoc M, ← hP]; simp only [List.append_assoc, List.singleton_append]) ?_
          refine gk_again_sel rfl (i + 1, ()) (by omega) (by dsimp only; omega) (by repeat (first | exact trivial | refine ⟨rfl, ?_⟩)) sA sS
        · have hR : txtR r = dgs r.f.toNat := by unfold txtR; rw [if_neg h1, List.append_nil]
          (repeat' (first | (refine gG ?_; try intro _) | ((first | refine g_split rfl rfl tE (fun _ => ?_) (fun _ => ?_) | refine gk_cond rfl rfl tE (fun _ => ?_) (fun _ => ?_)) <;> (try first | (exfalso; omega; done) | (rename_i hx; exact absurd rfl hx) | (rename_i hx; cases hx; done)))))
          refine gk_say 11 (.int .i64 ((i + 1 : Nat) : Int)) rfl (by first | (congr 1; done) | (congr 1; omega)) ?_
          refine gk_say 3 (.string (strOfNums (txtN L (i + 1)))) rfl (by rw [hst, hR, ← List.append_assoc M, ← hP]) ?_
          refine gk_again_sel rfl (i + 1, ()) (by omega) (by dsimp only; omega) (by repeat (first | exact trivial | refine ⟨rfl, ?_⟩)) sA sS
      · have hC0 : C = [44] := by rw [← hC, if_pos h0]
        obtain ⟨P, hP⟩ : ∃ P, P = M ++ C := ⟨_, rfl⟩
        have hPl : P.length ≤ 10 * i + 1 := by rw [hP, List.length_append]; omega
        (repeat' (first | (refine gG ?_; try intro _) | ((first | refine g_split rfl rfl tE (fun _ => ?_) (fun _ => ?_) | refine gk_cond rfl rfl tE (fun _ => ?_) (fun _ => ?_)) <;> (try first | (exfalso; omega; done) | (rename_i hx; exact absurd rfl hx) | (rename_i hx; cases hx; done)))))
        refine g_yd rfl rfl (Ys.yd (ys_sx_add (L := M) (M := [44]) rfl rfl rfl rfl rfl (by simp only [List.length_cons, List.length_nil]; omega))) ?_
        rw [show M ++ [44] = P by rw [hP, hC0]]
        (repeat (refine gG ?_; try intro _))
        refine g_say 23 (.int .u64 ((r.f.toNat : Nat) : Int)) rfl (by show Value.int .u64 _ = Value.int .u64 _; congr 1; omega) ?_
        refine g_mv rfl (mv_call_bel (fun w hk => tnum_any r.f.toNat (by omega) w) rfl rfl rfl rfl rfl (by kernel_rfl) ?_)
        (repeat (refine gG ?_; try intro _))
        refine g_yd rfl rfl (Ys.yd (ys_sx_add (L := P) (M := dgs r.f.toNat) rfl rfl rfl rfl rfl (by omega))) ?_
        by_cases h1 : 1 < r.m
        · have hR : txtR r = dgs r.f.toNat ++ 45 :: dgs (r.f + r.m - 1).toNat := by unfold txtR; rw [if_pos h1]
          (repeat' (first | (refine gG ?_; try intro _) | ((first | refine g_split rfl rfl tE (fun _ => ?_) (fun _ => ?_) | refine gk_cond rfl rfl tE (fun _ => ?_) (fun _ => ?_)) <;> (try first | (exfalso; omega; done) | (rename_i hx; exact absurd rfl hx) | (rename_i hx; cases hx; done)))))
          refine g_say 36 (.int .u64 (((r.f + r.m - 1).toNat : Nat) : Int)) rfl (by show Value.int .u64 _ = Value.int .u64 _; congr 1; omega) ?_
          refine g_mv rfl (mv_call_bel (fun w hk => tnum_any (r.f + r.m - 1).toNat (by omega) w) rfl rfl rfl rfl rfl (by kernel_rfl) ?_)
          (repeat (refine gG ?_; try intro _))
          refine g_yd rfl rfl (Ys.yd (ys_sx_add (L := [45]) (M := dgs (r.f + r.m - 1).toNat) rfl rfl rfl rfl rfl (by simp only [List.length_cons, List.length_nil]; omega))) ?_
          refine g_yd rfl rfl (Ys.yd (ys_sx_add (L := P ++ dgs r.f.toNat) (M := [45] ++ dgs (r.f + r.m - 1).toNat) rfl rfl rfl rfl rfl (by simp only [List.length_append, List.length_cons, List.length_nil]; omega))) ?_
          (repeat (refine gG ?_; try intro _))
          refine gk_say 11 (.int .i64 ((i + 1 : Nat) : Int)) rfl (by first | (congr 1; done) | (congr 1; omega)) ?_
          refine gk_say 3 (.string (strOfNums (txtN L (i + 1)))) rfl (by rw [hst, hR, ← List.append_assoc M, ← hP]; simp only [List.append_assoc, List.singleton_append]) ?_
          refine gk_again_sel rfl (i + 1, ()) (by omega) (by dsimp only; omega) (by repeat (first | exact trivial | refine ⟨rfl, ?_⟩)) sA sS
        · have hR : txtR r = dgs r.f.toNat := by unfold txtR; rw [if_neg h1, List.append_nil]
          (repeat' (first | (refine gG ?_; try intro _) | ((first | refine g_split rfl rfl tE (fun _ => ?_) (fun _ => ?_) | refine gk_cond rfl rfl tE (fun _ => ?_) (fun _ => ?_)) <;> (try first | (exfalso; omega; done) | (rename_i hx; exact absurd rfl hx) | (rename_i hx; cases hx; done)))))
          refine gk_say 11 (.int .i64 ((i + 1 : Nat) : Int)) rfl (by first | (congr 1; done) | (congr 1; omega)) ?_
          refine gk_say 3 (.string (strOfNums (txtN L (i + 1)))) rfl (by rw [hst, hR, ← List.append_assoc M, ← hP]) ?_
          refine gk_again_sel rfl (i + 1, ()) (by omega) (by dsimp only; omega) (by repeat (first | exact trivial | refine ⟨rfl, ?_⟩)) sA sS
    · have ht : txtN L i = txt L := by unfold txt; congr 1; omega
      rw [ht]
      (repeat' (first | (refine gG ?_; try intro _) | ((first | refine g_split rfl rfl tE (fun _ => ?_) (fun _ => ?_) | refine gk_cond rfl rfl tE (fun _ => ?_) (fun _ => ?_)) <;> (try first | (exfalso; omega; done) | (rename_i hx; exact absurd rfl hx) | (rename_i hx; cases hx; done)))))
      refine gk_ret hT rfl rfl (.tmp rfl .nil) (fun w' hk => ?_)
      exact ⟨rfl, hk.toBelow⟩
  · have e : txtP L = [] := by unfold txtP; rw [tB_false hr]; rfl
    rw [e]
    (repeat' (first | (refine gG ?_; try intro _) | (refine g_mv rfl ?_; first | refine mv_call_bel (fun w hk => by have hc := xright_any A n c L w hn (by omega) (hk.rR mE); rw [tB_false hr] at hc; exact hc) rfl rfl rfl rfl rfl (by kernel_rfl) ?_) | ((first | refine g_split rfl rfl tE (fun _ => ?_) (fun _ => ?_) | refine gk_cond rfl rfl tE (fun _ => ?_) (fun _ => ?_)) <;> (try first | (exfalso; omega; done) | (rename_i hx; exact absurd rfl hx) | (rename_i hx; cases hx; done)))))
    refine gk_ret hT rfl rfl (.tmp rfl .nil) (fun w' hk => ?_)
    exact ⟨rfl, hk.toBelow⟩
end Go.Proofs.Ytmehbhabheokbaa.Ex

