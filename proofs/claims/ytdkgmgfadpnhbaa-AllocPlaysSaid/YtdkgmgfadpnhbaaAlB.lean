/- Law 25: AllocPlays. -/
import Derived.Test.YtdkgmgfadpnhbaaAlA
import Derived.Test.YtdkgmgfadpnhbaaAlC
import Derived.Test.YtdkgmgfadpnhbaaOpen
import Derived.Test.YtdkgmgfadpnhbaaFlat3
namespace Go.Proofs.Ytdkgmgfadpnhbaa.Al
open Go.RowKit Mem Gx Gm KyU Dd Rf Hp
open Go.ChangeShapes Go.WideShapes Go.Deep
set_option linter.unusedVariables false
set_option linter.unusedSimpArgs false
set_option maxRecDepth 100000
set_option maxHeartbeats 4000000
theorem step_any (x a N B : Nat) (m : MS) (D : AlD) (s : AlS) (kd : Int) (w : World) (hN : N ≤ 40) (hkd : 0 ≤ kd) (hB9 : (B : Int) ≤ 4294967295) (hl9 : s.l.length < 900) (hM : MRel m N s) (hI : AlI N D s) (h : Rd1 w (packF [blk x (mC m (N : Nat)) 137, alF a N D s])) :
    Calls Try.prog 62 [.pointer (some ⟨x, 0, none⟩), .pointer (some ⟨a, 0, none⟩), .agg #[.int .i64 kd, .int .u32 (B : Int)]].toArray w (RetM (packF [blk x (mC m (N : Nat)) 137, alF a N D s]) (fun r : MS × AlD × AlS => MRel r.1 N r.2.2 ∧ AlI N r.2.1 r.2.2 ∧ r.2.2.l.length ≤ s.l.length + 1) (fun _ => .bool true) (fun r => packF [blk x (mC r.1 (N : Nat)) 137, alF a N r.2.1 r.2.2]) w) := by
  by_cases hh : 0 < s.l.count (B : Int)
  · exact step_held x a N B m D s kd w hN hkd hB9 hl9 hM hI hh h
  · exact step_not x a N B m D s kd w hN hkd hB9 hl9 hM hI (by omega) h
structure OpA where
  k : Int
  b : Int
deriving Inhabited
def OE (y : OpA) : Nat → Value
  | 0 => .int .i64 y.k
  | _ => .int .u32 y.b
theorem abd32 {x : Int} (h : (Lit.int .u32 x).wf = true) : 0 ≤ x ∧ x ≤ 4294967295 := by
  simp [Lit.wf, IntKind.min, IntKind.max, IntKind.signed, IntKind.bits] at h; omega
theorem opa_leaves {H : Type} {enc : TypeId × Value → H} {W : World} {V : Nat → Value} {l : List TypeId} (hl : l = [3, 87]) (hV : ∀ (j : Nat) (tj : TypeId), l[j]? = some tj → Leaf enc Try.prog W tj (V j)) :
    ∃ y : OpA, (∀ j, j < 2 → V j = OE y j) ∧ (0 ≤ y.b ∧ y.b ≤ 4294967295) := by
  subst hl
  obtain ⟨a0, e0, w0⟩ := leaf_int Try.underlying3 (hV 0 _ rfl)
  obtain ⟨a1, e1, w1⟩ := leaf_int Try.underlying87 (hV 1 _ rfl)
  refine ⟨⟨a0, a1⟩, fun j hj => ?_, abd32 w1⟩
  match j, hj with
  | 0, _ => exact e0
  | 1, _ => exact e1
theorem opas_of {H : Type} {enc : TypeId × Value → H} {W : World} {base : Nat} {v : Value} {d : DataW H} {p : List MemPlace} (hv : Value.okWide Try.prog W .any base 132 v) (h : DataW.Trod enc Try.prog W 0 (fun _ => true) true 132 v d p) :
    ∃ (A : Option Addr) (n c : Nat) (L : List OpA), v = .slice A n c ∧ (n = L.length ∧ Sl W A 2 OE L ∧ ∀ y ∈ L, 0 ≤ y.b ∧ y.b ≤ 4294967295) := by
  have hl : leaves Try.prog 8 139 = some [3, 87] := by decide +kernel
  obtain ⟨A, n, c, F, rfl, hA, h1, h2, h3, h4⟩ := open_slices Try.underlying132 hl (by kernel_rfl) (by decide) hv h
  obtain ⟨L, hn, hs, hb⟩ := arr_list (enc := OE) (Q := fun y => 0 ≤ y.b ∧ y.b ≤ 4294967295) hA (fun i hi => opa_leaves rfl (h4 i hi))
  exact ⟨A, n, c, L, rfl, hn, hs, hb⟩
def m0 : MS := ⟨fun _ => 0, fun _ => false, fun _ => false⟩
theorem mrel0 (N : Nat) : MRel m0 N ⟨iota N, [], [], []⟩ := fun i h1 h2 => ⟨rfl, by simp [m0], by simp [m0]⟩
theorem allocPlays_any (n : Int) (A : Option Addr) (m c : Nat) (CS : List OpA) (w : World) (hm : m = CS.length) (hq : ∀ y ∈ CS, 0 ≤ y.b ∧ y.b ≤ 4294967295) (hs : Rd1 w (sl A 2 OE CS)) :
    Calls Try.prog 9 [.int .i64 n, .slice A m c].toArray w fun e w' => e = .returned (.bool true) ∧ Below w.heap.size w w' := by
  refine g_enter0 T [] [] [sl A 2 OE CS] Try.func9 rfl Try.ntmps9 rfl (Rds.cons hs .nil).kn ?_
  by_cases hbad : n < 0 ∨ 4096 < n
  · (repeat' (first | (refine gG ?_; try intro _) | (refine g_mv rfl ?_; first | refine mv_call_bel (fun w hk => anew_bad n w hbad) rfl rfl rfl rfl rfl (by kernel_rfl) ?_ | refine mv_call_bel (fun w hk => aalive_any w) rfl rfl rfl rfl rfl (by kernel_rfl) ?_) | ((first | refine g_split rfl rfl tE (fun _ => ?_) (fun _ => ?_) | refine gk_cond rfl rfl tE (fun _ => ?_) (fun _ => ?_)) <;> (try first | (exfalso; omega; done) | (rename_i hx; exact absurd rfl hx) | (rename_i hx; cases hx; done)))))
    all_goals
      refine gk_ret hT rfl rfl (.tmp rfl .nil) (fun w' hk => ?_)
      exact ⟨by first | rfl | (simp [tB_eq]; rfl), hk.toBelow⟩
  obtain ⟨N, rfl⟩ : ∃ N : Nat, n = (N : Int) := ⟨n.toNat, by omega⟩
  (repeat (refine gG ?_; try intro _))
  refine g_mv rfl ?_; refine mv_call_rt (fun w hk => anew_any N w (by omega)) rfl rfl rfl rfl rfl (by kernel_rfl) (fun _ => rfl) (fun q hq0 => ?_)
  obtain ⟨a, D0⟩ := q
  dsimp only at hq0 ⊢
  by_cases h40 : 40 < N ∨ 80 < m
  · (repeat' (first | (refine gG ?_; try intro _) | ((first | refine g_split rfl rfl tE (fun _ => ?_) (fun _ => ?_) | refine gk_cond rfl rfl tE (fun _ => ?_) (fun _ => ?_)) <;> (try first | (exfalso; omega; done) | (rename_i hx; exact absurd rfl hx) | (rename_i hx; cases hx; done)))))
    all_goals
      refine gk_ret hT rfl rfl (.tmp rfl .nil) (fun w' hk => ?_)
      exact ⟨rfl, hk.toBelow⟩
  (repeat' (first | (refine gG ?_; try intro _) | ((first | refine g_split rfl rfl tE (fun _ => ?_) (fun _ => ?_) | refine gk_cond rfl rfl tE (fun _ => ?_) (fun _ => ?_)) <;> (try first | (exfalso; omega; done) | (rename_i hx; exact absurd rfl hx) | (rename_i hx; cases hx; done)))))
  rename_i x
  refine gk_loop_sel (fun (q : Nat × MS × AlD × AlS) => match q with | (i, M, D, s) => (i ≤ m ∧ MRel M N s ∧ AlI N D s ∧ s.l.length ≤ i)) (fun (q : Nat × MS × AlD × AlS) => match q with | (i, M, D, s) => [(0, .int .i64 (N : Int)), (1, .slice A m c), (5, .pointer (some ⟨a, 0, none⟩)), (7, .pointer (some ⟨x, 0, none⟩)), (8, .int .i64 (i : Int))]) (fun (q : Nat × MS × AlD × AlS) => match q with | (i, M, D, s) => [blk x (mC M (N : Nat)) 137, alF a N D s]) (fun (q : Nat × MS × AlD × AlS) => match q with | (i, M, D, s) => [sl A 2 OE CS]) (fun (q : Nat × MS × AlD × AlS) => match q with | (i, M, D, s) => m - i) (0, m0, D0, ⟨iota N, [], [], []⟩) rfl ⟨Nat.zero_le _, mrel0 N, hq0, Nat.le_refl _⟩ (by repeat (first | exact trivial | refine ⟨rfl, ?_⟩)) sA sS ?_
  rintro ⟨i, M, D, s⟩ hI
  replace hI : (i ≤ m ∧ MRel M N s ∧ AlI N D s ∧ s.l.length ≤ i) := hI
  change GK _ _ [(0, .int .i64 (N : Int)), (1, .slice A m c), (5, .pointer (some ⟨a, 0, none⟩)), (7, .pointer (some ⟨x, 0, none⟩)), (8, .int .i64 (i : Int))] [blk x (mC M (N : Nat)) 137, alF a N D s] [sl A 2 OE CS]
  obtain ⟨hi, hM, hA, hl⟩ := hI
  by_cases hlt : i < m
  · obtain ⟨cd, hcd⟩ : ∃ b, CS[i]? = some b := ⟨CS[i], List.getElem?_eq_getElem (by omega)⟩
    have hb := hq cd (List.mem_of_getElem? hcd)
    refine gk_elem (enc := OE) (L := CS) i mE (by omega) (by decide) (fun g o y eA hy => ?_)
    subst eA
    obtain rfl : cd = y := by rw [hcd] at hy; exact Option.some.inj hy
    obtain ⟨kd, bb⟩ := cd
    obtain ⟨B, rfl⟩ : ∃ B : Nat, bb = (B : Int) := ⟨bb.toNat, by have := hb.1; dsimp only at this; omega⟩
    replace hb : (B : Int) ≤ 4294967295 := hb.2
    have hkv : (⟨kd, (B : Int)⟩ : OpA).k = kd := rfl
    by_cases hk0 : kd < 0
    · (repeat' (first | (refine gG ?_; try intro _) | ((first | refine g_split rfl rfl tE (fun _ => ?_) (fun _ => ?_) | refine gk_cond rfl rfl tE (fun _ => ?_) (fun _ => ?_)) <;> (try first | (exfalso; omega; done) | (rename_i hx; exact absurd rfl hx) | (rename_i hx; cases hx; done)))))
      refine gk_ret hT rfl rfl (.tmp rfl .nil) (fun w' hk => ?_)
      exact ⟨rfl, hk.toBelow⟩
    (repeat' (first | (refine gG ?_; try intro _) | ((first | refine g_split rfl rfl tE (fun _ => ?_) (fun _ => ?_) | refine gk_cond rfl rfl tE (fun _ => ?_) (fun _ => ?_)) <;> (try first | (exfalso; omega; done) | (rename_i hx; exact absurd rfl hx) | (rename_i hx; cases hx; done)))))
    refine g_pack [blk x (mC M (N : Nat)) 137, alF a N D s] [] sA ?_
    refine g_mv rfl (mv_call_mod (φ := packF [blk x (mC M (N : Nat)) 137, alF a N D s]) (ψ := fun r : MS × AlD × AlS => packF [blk x (mC r.1 (N : Nat)) 137, alF a N r.2.1 r.2.2]) (fun w1 hk => by exact step_any x a N B M D s kd w1 (by omega) (by omega) hb (by omega) hM hA (hk.rO (φ := packF [blk x (mC M (N : Nat)) 137, alF a N D s]) mE)) rfl rfl rfl rfl rfl (by kernel_rfl) (by intro _; first | ((repeat (first | with_reducible exact Upd.here _ | with_reducible apply Upd.there)); done) | ((repeat (first | exact Upd.here _ | apply Upd.there)); done) | fail) (fun r hr => ?_))
    obtain ⟨M1, D1, s1⟩ := r
    obtain ⟨hM1, hA1, hl1⟩ := hr
    dsimp only at hM1 hA1 hl1 ⊢
    refine g_unpack (l := [blk x (mC M1 (N : Nat)) 137, alF a N D1 s1]) (by repeat (first | with_reducible exact Sel.here | with_reducible apply Sel.there)) ?_
    (repeat' (first | (refine gG ?_; try intro _) | (refine g_mv rfl ?_; first | refine mv_call_bel (fun w hk => mtold_any x a N M1 D1 s1 (B : Int) w (by omega) (by omega) hb hM1 hA1 (hk.rO (φ := blk x (mC M1 (N : Nat)) 137) mE) (hk.rO (φ := alF a N D1 s1) mE)) rfl rfl rfl rfl rfl (by kernel_rfl) ?_) | ((first | refine g_split rfl rfl tE (fun _ => ?_) (fun _ => ?_) | refine gk_cond rfl rfl tE (fun _ => ?_) (fun _ => ?_)) <;> (try first | (exfalso; omega; done) | (rename_i hx; exact absurd rfl hx) | (rename_i hx; cases hx; done)))))
    refine gk_say 8 (.int .i64 ((i + 1 : Nat) : Int)) rfl (by first | (congr 1; done) | (congr 1; omega)) ?_
    have hI2 : i + 1 ≤ m ∧ MRel M1 N s1 ∧ AlI N D1 s1 ∧ s1.l.length ≤ i + 1 := ⟨hlt, hM1, hA1, by omega⟩
    refine gk_again_sel rfl (i + 1, M1, D1, s1) hI2 (by dsimp only; omega) (by repeat (first | exact trivial | refine ⟨rfl, ?_⟩)) sA sS
  · (repeat' (first | (refine gG ?_; try intro _) | (refine g_mv rfl ?_; first | refine mv_call_bel (fun w hk => aalive_any w) rfl rfl rfl rfl rfl (by kernel_rfl) ?_) | ((first | refine g_split rfl rfl tE (fun _ => ?_) (fun _ => ?_) | refine gk_cond rfl rfl tE (fun _ => ?_) (fun _ => ?_)) <;> (try first | (exfalso; omega; done) | (rename_i hx; exact absurd rfl hx) | (rename_i hx; cases hx; done)))))
    refine gk_ret hT rfl rfl (.tmp rfl .nil) (fun w' hk => ?_)
    exact ⟨rfl, hk.toBelow⟩
end Go.Proofs.Ytdkgmgfadpnhbaa.Al

