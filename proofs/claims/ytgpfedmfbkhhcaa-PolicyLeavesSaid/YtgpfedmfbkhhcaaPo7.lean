/- The numbers to which one may go back, of a catalog. -/
import Derived.Test.YtgpfedmfbkhhcaaPo6
namespace Go.Proofs.Ytgpfedmfbkhhcaa.Po
open Go.RowKit Mem Gx Ct Dd Hp
set_option linter.unusedVariables false
set_option linter.unusedSimpArgs false
set_option maxRecDepth 100000
set_option maxHeartbeats 4000000
/-- A row that rises has what another one has. -/
structure OfI (src l : List Int) : Prop where
  rise : l.Pairwise (fun x y => x < y)
  mem : ∀ x, x ∈ l ↔ x ∈ src
  len : l.length ≤ src.length
theorem OfI.nil : OfI [] [] := ⟨.nil, fun _ => Iff.rfl, Nat.le_refl _⟩
theorem OfI.step {src l : List Int} (h : OfI src l) (x : Int) : OfI (src ++ [x]) (insU x l) :=
  ⟨insU_rise h.rise, fun y => by rw [mem_insU, h.mem, List.mem_append, List.mem_singleton]; exact or_comm, by have := insU_len (x := x) (l := l); have := h.len; rw [List.length_append, List.length_singleton]; omega⟩
theorem OfI.done {src l : List Int} (h : OfI src l) : l = setP src := rise_uniq h.rise (setP_rise _) fun x => by rw [h.mem, mem_setP]
def qsP (B : List BokD) (vol : Int) : List Int := (B.filter fun b => decide (vol = 0 ∨ vol ∈ b.L)).map BokD.q
theorem qs_yes {B : List BokD} {vol : Int} {k : Nat} {b : BokD} (h : B[k]? = some b) (hv : vol = 0 ∨ vol ∈ b.L) : qsP (B.take (k + 1)) vol = qsP (B.take k) vol ++ [b.q] := by
  unfold qsP
  rw [take_snoc h, List.filter_append, show [b].filter (fun b => decide (vol = 0 ∨ vol ∈ b.L)) = [b] by simp [hv], List.map_append]
  rfl
theorem qs_no {B : List BokD} {vol : Int} {k : Nat} {b : BokD} (h : B[k]? = some b) (hv : ¬ (vol = 0 ∨ vol ∈ b.L)) : qsP (B.take (k + 1)) vol = qsP (B.take k) vol := by
  unfold qsP
  rw [take_snoc h, List.filter_append, show [b].filter (fun b => decide (vol = 0 ∨ vol ∈ b.L)) = [] by simp [hv], List.append_nil]
theorem qs_len (B : List BokD) (vol : Int) : (qsP B vol).length ≤ B.length := by
  unfold qsP
  rw [List.length_map]
  exact List.length_filter_le _ _
theorem ofP_qs (K : List Int) (B : List BokD) (vol : Int) : ofP K (B.map BokD.d) vol = setP (K ++ qsP B vol) := by
  unfold ofP qsP
  rw [List.filter_map, List.map_map]
  rfl
theorem ofP_len (K : List Int) (B : List BokD) (vol : Int) : (ofP K (B.map BokD.d) vol).length ≤ K.length + B.length := by
  rw [ofP_qs]
  have := setP_len (K ++ qsP B vol)
  have := qs_len B vol
  rw [List.length_append] at *
  omega
theorem new_step {w : World} {A A' : Option Addr} {l l' : List Int} (h : New w [] (sl A 1 (IE .u64) l)) (h' : ∀ b, (sl A' 1 (IE .u64) l').S b → w.heap.size ≤ b ∨ ∃ ψ, ψ ∈ [sl A 1 (IE .u64) l] ∧ ψ.S b) : New w [] (sl A' 1 (IE .u64) l') := fun b hb => by
  rcases h' b hb with h1 | ⟨ψ, h1, h2⟩
  · exact .inl h1
  · obtain rfl := List.mem_singleton.1 h1
    exact h b h2
theorem rof_any (c : CatD) (vol : Int) (w : World) (hk0 : c.k.Ok c.K.length) (hb0 : c.b.Ok c.B.length) (hcB : ∀ b, b ∈ c.B → b.s.Ok b.L.length) (hk9 : c.K.length ≤ 400) (hb9 : c.B.length ≤ 400) (hB9 : ∀ b, b ∈ c.B → b.L.length ≤ 1000) (h1 : Rd1 w (sl c.k.A 1 (IE .u64) c.K)) (h2 : Rd1 w (sl c.b.A 3 BE c.B)) (h3 : Rd1 w (allF c.B BokD.f)) :
    Calls Try.prog 54 [c.val, .int .i64 vol].toArray w (RetS (fun q : SlV => q.Ok (ofP c.K (c.B.map BokD.d) vol).length) (fun q => q.v) (fun q => [sl q.A 1 (IE .u64) (ofP c.K (c.B.map BokD.d) vol)]) [] w) := by
  rw [ofP_qs]
  obtain ⟨nv, ng, nb, fl, ⟨vA, vm, vc⟩, V, ⟨gA, gm, gc⟩, G, ⟨bA, bm, bc⟩, B, ⟨kA, km, kd⟩, K, ⟨tA, tm, tc⟩, M⟩ := c
  have hkn : km = K.length := hk0.n
  have hbn : bm = B.length := hb0.n
  dsimp only at hk9 hb9 hB9 hcB h1 h2 h3 ⊢
  refine g_enter0 T [] [] [allF B BokD.f, sl bA 3 BE B, sl kA 1 (IE .u64) K] Try.func54 rfl Try.ntmps54 rfl (Rds.cons h3 (Rds.cons h2 (.cons h1 .nil))).kn ?_
  refine gk_nilR none 1 (IE .u64) ?_
  (repeat (refine gG ?_; try intro _))
  rename_i g2
  refine gk_loop_sel (fun (q : Nat × (Option Addr) × Nat × (List Int)) => match q with | (k, A, cc, l) => (k ≤ km ∧ OfI (K.take k) l ∧ (SlV.mk A l.length cc).Ok l.length ∧ New w [] (sl A 1 (IE .u64) l))) (fun (q : Nat × (Option Addr) × Nat × (List Int)) => match q with | (k, A, cc, l) => [(1, .int .i64 vol), (2, .pointer (some ⟨g2, 0, none⟩)), (5, .slice A l.length cc), (6, .int .i64 (k : Int))]) (fun (q : Nat × (Option Addr) × Nat × (List Int)) => match q with | (k, A, cc, l) => [blk g2 [.int .i64 nv, .int .i64 ng, .int .i64 nb, .int .u64 fl, .slice vA vm vc, .slice gA gm gc, .slice bA bm bc, .slice kA km kd, .slice tA tm tc] 67]) (fun (q : Nat × (Option Addr) × Nat × (List Int)) => match q with | (k, A, cc, l) => [sl A 1 (IE .u64) l, sl kA 1 (IE .u64) K, sl bA 3 BE B, allF B BokD.f]) (fun (q : Nat × (Option Addr) × Nat × (List Int)) => match q with | (k, A, cc, l) => km - k) (0, none, 0, []) rfl ⟨Nat.zero_le _, .nil, ⟨rfl, Nat.le_refl _, Nat.zero_le _, fun _ => rfl⟩, fun b hb => absurd hb.1 (Nat.lt_irrefl 0)⟩ (by repeat (first | exact trivial | refine ⟨rfl, ?_⟩)) sA sS ?_
  rintro ⟨k, A, cc, l⟩ hI
  replace hI : (k ≤ km ∧ OfI (K.take k) l ∧ (SlV.mk A l.length cc).Ok l.length ∧ New w [] (sl A 1 (IE .u64) l)) := hI
  change GK _ _ [(1, .int .i64 vol), (2, .pointer (some ⟨g2, 0, none⟩)), (5, .slice A l.length cc), (6, .int .i64 (k : Int))] [blk g2 [.int .i64 nv, .int .i64 ng, .int .i64 nb, .int .u64 fl, .slice vA vm vc, .slice gA gm gc, .slice bA bm bc, .slice kA km kd, .slice tA tm tc] 67] [sl A 1 (IE .u64) l, sl kA 1 (IE .u64) K, sl bA 3 BE B, allF B BokD.f]
  obtain ⟨hk1, hO, hok, hnew⟩ := hI
  have hll := hO.len
  rw [List.length_take] at hll
  by_cases hlt : k < km
  · obtain ⟨y, hy⟩ : ∃ y, K[k]? = some y := ⟨K[k], List.getElem?_eq_getElem (by omega)⟩
    refine gk_elem (A := kA) (enc := IE .u64) (L := K) k mE (by omega) (by decide) (fun kb ko y' eA hy' => ?_)
    subst eA
    obtain rfl : y = y' := by rw [hy] at hy'; exact Option.some.inj hy'
    have hst := hO.step y
    rw [← take_snoc hy] at hst
    (repeat' (first | (refine gG ?_; try intro _) | ((first | refine g_split rfl rfl tE (fun _ => ?_) (fun _ => ?_) | refine gk_cond rfl rfl tE (fun _ => ?_) (fun _ => ?_)) <;> (try first | (exfalso; omega; done) | (rename_i hx; exact absurd rfl hx) | (rename_i hx; cases hx; done)))))
    refine g_mv rfl ?_; refine mv_call_rs (fun w hk => put_any A l.length cc l y w hok (by omega) (hk.rR (φ := sl A 1 (IE .u64) l) mE)) rfl rfl rfl rfl rfl (by kernel_rfl) sS (fun _ => rfl) (fun q hq hqn => ?_)
    obtain ⟨A2, n2, c2⟩ := q
    have hn2 := hq.n
    dsimp only at hn2
    subst hn2
    have hnw := new_step hnew (hqn _ (.head _))
    (repeat (refine gG ?_; try intro _))
    refine gk_again_sel rfl (k + 1, A2, c2, insU y l) ⟨hlt, hst, hq, hnw⟩ (by dsimp only; omega) (by repeat (first | exact trivial | refine ⟨rfl, ?_⟩)) sA sS
  · have hkk : k = K.length := by omega
    rw [hkk, List.take_length] at hO
    (repeat' (first | (refine gG ?_; try intro _) | ((first | refine g_split rfl rfl tE (fun _ => ?_) (fun _ => ?_) | refine gk_cond rfl rfl tE (fun _ => ?_) (fun _ => ?_)) <;> (try first | (exfalso; omega; done) | (rename_i hx; exact absurd rfl hx) | (rename_i hx; cases hx; done)))))
    refine gk_loop_sel (fun (q : Nat × (Option Addr) × Nat × (List Int)) => match q with | (k2, A, cc, l) => (k2 ≤ bm ∧ OfI (K ++ qsP (B.take k2) vol) l ∧ (SlV.mk A l.length cc).Ok l.length ∧ New w [] (sl A 1 (IE .u64) l))) (fun (q : Nat × (Option Addr) × Nat × (List Int)) => match q with | (k2, A, cc, l) => [(1, .int .i64 vol), (2, .pointer (some ⟨g2, 0, none⟩)), (5, .slice A l.length cc), (7, .int .i64 (k2 : Int))]) (fun (q : Nat × (Option Addr) × Nat × (List Int)) => match q with | (k2, A, cc, l) => [blk g2 [.int .i64 nv, .int .i64 ng, .int .i64 nb, .int .u64 fl, .slice vA vm vc, .slice gA gm gc, .slice bA bm bc, .slice kA km kd, .slice tA tm tc] 67]) (fun (q : Nat × (Option Addr) × Nat × (List Int)) => match q with | (k2, A, cc, l) => [sl A 1 (IE .u64) l, sl bA 3 BE B, allF B BokD.f]) (fun (q : Nat × (Option Addr) × Nat × (List Int)) => match q with | (k2, A, cc, l) => bm - k2) (0, A, cc, l) rfl ⟨Nat.zero_le _, by rw [List.take_zero]; show OfI (K ++ []) l; rw [List.append_nil]; exact hO, hok, hnew⟩ (by repeat (first | exact trivial | refine ⟨rfl, ?_⟩)) sA sS ?_
    rintro ⟨k2, A, cc, l⟩ hI
    replace hI : (k2 ≤ bm ∧ OfI (K ++ qsP (B.take k2) vol) l ∧ (SlV.mk A l.length cc).Ok l.length ∧ New w [] (sl A 1 (IE .u64) l)) := hI
    change GK _ _ [(1, .int .i64 vol), (2, .pointer (some ⟨g2, 0, none⟩)), (5, .slice A l.length cc), (7, .int .i64 (k2 : Int))] [blk g2 [.int .i64 nv, .int .i64 ng, .int .i64 nb, .int .u64 fl, .slice vA vm vc, .slice gA gm gc, .slice bA bm bc, .slice kA km kd, .slice tA tm tc] 67] [sl A 1 (IE .u64) l, sl bA 3 BE B, allF B BokD.f]
    obtain ⟨hk2, hO2, hok2, hnew2⟩ := hI
    have hl2 := hO2.len
    have hq2 := qs_len (B.take k2) vol
    rw [List.length_take] at hq2
    rw [List.length_append] at hl2
    by_cases hlt2 : k2 < bm
    · obtain ⟨y, hy⟩ : ∃ y, B[k2]? = some y := ⟨B[k2], List.getElem?_eq_getElem (by omega)⟩
      have hyB := List.mem_of_getElem? hy
      have hyn : y.s.n = y.L.length := (hcB y hyB).n
      have hy9 := hB9 y hyB
      have d1 : Der [allF B BokD.f] (sl y.s.A 1 (IE .i64) y.L) := Der.elem (L := B) (F := BokD.f) (x := y) (.mem (.head _)) hyB
      refine gk_der [allF B BokD.f] d1 sS ?_
      refine gk_elem (A := bA) (enc := BE) (L := B) k2 mE (by omega) (by decide) (fun kb ko y' eA hy' => ?_)
      subst eA
      obtain rfl : y = y' := by rw [hy] at hy'; exact Option.some.inj hy'
      (repeat' (first | (refine gG ?_; try intro _) | ((first | refine g_split rfl rfl tE (fun _ => ?_) (fun _ => ?_) | refine gk_cond rfl rfl tE (fun _ => ?_) (fun _ => ?_)) <;> (try first | (exfalso; omega; done) | (rename_i hx; exact absurd rfl hx) | (rename_i hx; cases hx; done)))))
      refine gk_say 8 (.bool (tB (vol = 0 ∨ vol ∈ y.L.take 0))) rfl (congrArg Value.bool (tB_congr ⟨fun h => .inl h, fun h => h.elim id (fun h => by simp at h)⟩)) ?_
      refine gk_loop_sel (fun (q : Nat × Unit) => match q with | (j, u) => (j ≤ y.L.length)) (fun (q : Nat × Unit) => match q with | (j, u) => [(1, .int .i64 vol), (2, .pointer (some ⟨g2, 0, none⟩)), (5, .slice A l.length cc), (7, .int .i64 (k2 : Int)), (8, .bool (tB (vol = 0 ∨ vol ∈ y.L.take j))), (9, .int .i64 (j : Int))]) (fun (q : Nat × Unit) => match q with | (j, u) => [blk g2 [.int .i64 nv, .int .i64 ng, .int .i64 nb, .int .u64 fl, .slice vA vm vc, .slice gA gm gc, .slice (some ⟨kb, ko, none⟩) bm bc, .slice kA km kd, .slice tA tm tc] 67]) (fun (q : Nat × Unit) => match q with | (j, u) => [row kb (ko + k2 * 3) (encF BE y 0 3), sl y.s.A 1 (IE .i64) y.L, sl A 1 (IE .u64) l, sl (some ⟨kb, ko, none⟩) 3 BE B, allF B BokD.f]) (fun (q : Nat × Unit) => match q with | (j, u) => y.L.length - j) (0, ()) rfl (Nat.zero_le _) (by repeat (first | exact trivial | refine ⟨rfl, ?_⟩)) sA sS ?_
      rintro ⟨j, u⟩ hI
      replace hI : (j ≤ y.L.length) := hI
      change GK _ _ [(1, .int .i64 vol), (2, .pointer (some ⟨g2, 0, none⟩)), (5, .slice A l.length cc), (7, .int .i64 (k2 : Int)), (8, .bool (tB (vol = 0 ∨ vol ∈ y.L.take j))), (9, .int .i64 (j : Int))] [blk g2 [.int .i64 nv, .int .i64 ng, .int .i64 nb, .int .u64 fl, .slice vA vm vc, .slice gA gm gc, .slice (some ⟨kb, ko, none⟩) bm bc, .slice kA km kd, .slice tA tm tc] 67] [row kb (ko + k2 * 3) (encF BE y 0 3), sl y.s.A 1 (IE .i64) y.L, sl A 1 (IE .u64) l, sl (some ⟨kb, ko, none⟩) 3 BE B, allF B BokD.f]
      by_cases hj : j < y.L.length
      · obtain ⟨m, hm⟩ : ∃ m, y.L[j]? = some m := ⟨y.L[j], List.getElem?_eq_getElem hj⟩
        have hsn := take_snoc hm
        by_cases hs : vol = 0 ∨ vol ∈ y.L.take j
        · refine gk_say 8 (.bool true) rfl (congrArg Value.bool (tB_true hs)) ?_
          (repeat' (first | (refine gG ?_; try intro _) | ((first | refine g_split rfl rfl tE (fun _ => ?_) (fun _ => ?_) | refine gk_cond rfl rfl tE (fun _ => ?_) (fun _ => ?_)) <;> (try first | (exfalso; omega; done) | (rename_i hx; exact absurd rfl hx) | (rename_i hx; cases hx; done)))))
          refine gk_say 8 (.bool (tB (vol = 0 ∨ vol ∈ y.L.take (j + 1)))) rfl (congrArg Value.bool (tB_true (hs.imp id fun h => by rw [hsn]; exact List.mem_append_left _ h)).symm) ?_
          refine gk_again_sel rfl (j + 1, ()) (by omega) (by dsimp only; omega) (by repeat (first | exact trivial | refine ⟨rfl, ?_⟩)) sA sS
        · refine gk_elem (A := y.s.A) (enc := IE .i64) (L := y.L) j mE hj (by decide) (fun mb mo m' eM hm' => ?_)
          obtain rfl : m = m' := by rw [hm] at hm'; exact Option.some.inj hm'
          refine gk_say 8 (.bool false) rfl (congrArg Value.bool (tB_false hs)) ?_
          (repeat' (first | (refine gG ?_; try intro _) | ((first | refine g_split rfl rfl tE (fun _ => ?_) (fun _ => ?_) | refine gk_cond rfl rfl tE (fun _ => ?_) (fun _ => ?_)) <;> (try first | (exfalso; omega; done) | (rename_i hx; exact absurd rfl hx) | (rename_i hx; cases hx; done)))))
          refine g_say 51 (.slice (some ⟨mb, mo, none⟩) y.s.n y.s.c) rfl (congrArg (fun a => Value.slice a y.s.n y.s.c) eM) ?_
          (repeat' (first | (refine gG ?_; try intro _) | ((first | refine g_split rfl rfl tE (fun _ => ?_) (fun _ => ?_) | refine gk_cond rfl rfl tE (fun _ => ?_) (fun _ => ?_)) <;> (try first | (exfalso; omega; done) | (rename_i hx; exact absurd rfl hx) | (rename_i hx; cases hx; done)))))
          refine gk_say 8 (.bool (tB (vol = 0 ∨ vol ∈ y.L.take (j + 1)))) rfl (congrArg Value.bool (tB_congr (p := m = vol) ⟨fun e => .inr (by rw [hsn, ← e]; simp), fun e => by
            rw [hsn, List.mem_append, List.mem_singleton] at e
            rcases e with e | e | e
            · exact absurd (.inl e) hs
            · exact absurd (.inr e) hs
            · exact e.symm⟩)) ?_
          refine gk_again_sel rfl (j + 1, ()) (by omega) (by dsimp only; omega) (by repeat (first | exact trivial | refine ⟨rfl, ?_⟩)) sA sS
      · have hjl : y.L.take j = y.L := List.take_of_length_le (by omega)
        rw [hjl]
        by_cases hv : vol = 0 ∨ vol ∈ y.L
        · have hst := hO2.step y.q
          rw [List.append_assoc, ← qs_yes hy hv] at hst
          refine gk_say 8 (.bool true) rfl (congrArg Value.bool (tB_true hv)) ?_
          (repeat' (first | (refine gG ?_; try intro _) | ((first | refine g_split rfl rfl tE (fun _ => ?_) (fun _ => ?_) | refine gk_cond rfl rfl tE (fun _ => ?_) (fun _ => ?_)) <;> (try first | (exfalso; omega; done) | (rename_i hx; exact absurd rfl hx) | (rename_i hx; cases hx; done)))))
          refine g_mv rfl ?_; refine mv_call_rs (fun w hk => put_any A l.length cc l y.q w hok2 (by omega) (hk.rR (φ := sl A 1 (IE .u64) l) mE)) rfl rfl rfl rfl rfl (by kernel_rfl) sS (fun _ => rfl) (fun q hq hqn => ?_)
          obtain ⟨A2, n2, c2⟩ := q
          have hn2 := hq.n
          dsimp only at hn2
          subst hn2
          have hnw := new_step hnew2 (hqn _ (.head _))
          (repeat (refine gG ?_; try intro _))
          refine gk_again_sel rfl (k2 + 1, A2, c2, insU y.q l) ⟨hlt2, hst, hq, hnw⟩ (by dsimp only; omega) (by repeat (first | exact trivial | refine ⟨rfl, ?_⟩)) sA sS
        · have hst := hO2
          rw [← qs_no hy hv] at hst
          refine gk_say 8 (.bool false) rfl (congrArg Value.bool (tB_false hv)) ?_
          (repeat' (first | (refine gG ?_; try intro _) | ((first | refine g_split rfl rfl tE (fun _ => ?_) (fun _ => ?_) | refine gk_cond rfl rfl tE (fun _ => ?_) (fun _ => ?_)) <;> (try first | (exfalso; omega; done) | (rename_i hx; exact absurd rfl hx) | (rename_i hx; cases hx; done)))))
          refine gk_again_sel rfl (k2 + 1, A, cc, l) ⟨hlt2, hst, hok2, hnew2⟩ (by dsimp only; omega) (by repeat (first | exact trivial | refine ⟨rfl, ?_⟩)) sA sS
    · have hkk2 : B.take k2 = B := List.take_of_length_le (by omega)
      rw [hkk2] at hO2
      have e := hO2.done
      (repeat' (first | (refine gG ?_; try intro _) | ((first | refine g_split rfl rfl tE (fun _ => ?_) (fun _ => ?_) | refine gk_cond rfl rfl tE (fun _ => ?_) (fun _ => ?_)) <;> (try first | (exfalso; omega; done) | (rename_i hx; exact absurd rfl hx) | (rename_i hx; cases hx; done)))))
      refine gk_ret hT rfl rfl (.tmp rfl .nil) (fun w' hk => ?_)
      exact RetS.mk (⟨A, l.length, cc⟩ : SlV) (by rw [← e]; exact hok2) rfl hk (.cons (by rw [← e]; exact RS1.rd hk mE hnew2) .nil)
theorem compW_own (v : Value) (L : List Int) (w : World) (h9 : L.length ≤ 1000000) (h : Rd1 w (own 0 31 1 v (IE .u64) L)) :
    Calls Try.prog 76 [v].toArray w (RetM (own 0 31 1 v (IE .u64) L) (fun s : Value => True) (fun s => s) (fun s => own 0 31 1 s (IE .u64) (dd L)) w) := by
  rcases L with _ | ⟨x, L⟩
  · obtain ⟨A, c, rfl, _⟩ := own_rdv h
    exact (SoW.comp_nil A c w).mono fun e w' ⟨he, hb⟩ => ⟨_, trivial, he, .of_below h hb⟩
  · obtain ⟨b, c, hv, hc, hm⟩ := own_at0 (h.1) (by simp)
    subst hv
    exact (SoW.comp_any b _ c (x :: L) w rfl h9 h).mono fun e w' ⟨_, _, he, hb⟩ => ⟨_, trivial, he, hb⟩
theorem srtW_of {L S : List Int} (hp : S.Perm L) (hs : Pq.SortedIn SoW.lt 0 L.length S) : S = Ex.srt L := Ex.srt_of hp hs
theorem pof_any (c : CatD) (vol : Int) (w : World) (hv1 : 1 ≤ vol) (hk0 : c.k.Ok c.K.length) (hb0 : c.b.Ok c.B.length) (hcB : ∀ b, b ∈ c.B → b.s.Ok b.L.length) (hk9 : c.K.length ≤ 400) (hb9 : c.B.length ≤ 400) (hB9 : ∀ b, b ∈ c.B → b.L.length ≤ 1000) (h1 : Rd1 w (sl c.k.A 1 (IE .u64) c.K)) (h2 : Rd1 w (sl c.b.A 3 BE c.B)) (h3 : Rd1 w (allF c.B BokD.f)) :
    Calls Try.prog 52 [c.val, .int .i64 vol].toArray w (RetS (fun q : SlV => q.Ok (ofP c.K (c.B.map BokD.d) vol).length) (fun q => q.v) (fun q => [sl q.A 1 (IE .u64) (ofP c.K (c.B.map BokD.d) vol)]) [] w) := by
  rw [ofP_qs]
  obtain ⟨nv, ng, nb, fl, ⟨vA, vm, vc⟩, V, ⟨gA, gm, gc⟩, G, ⟨bA, bm, bc⟩, B, ⟨kA, km, kd⟩, K, ⟨tA, tm, tc⟩, M⟩ := c
  have hkn : km = K.length := hk0.n
  have hbn : bm = B.length := hb0.n
  dsimp only at hk9 hb9 hB9 hcB h1 h2 h3 ⊢
  refine g_enter0 T [] [] [allF B BokD.f, sl bA 3 BE B, sl kA 1 (IE .u64) K] Try.func52 rfl Try.ntmps52 rfl (Rds.cons h3 (Rds.cons h2 (.cons h1 .nil))).kn ?_
  (repeat (refine gG ?_; try intro _))
  rename_i g2
  refine g_mv rfl ?_; refine mv_call_rt (fun w hk => cloneU_own kA km kd K w hkn (by omega) (hk.pR (sl kA 1 (IE .u64) K) mE)) rfl rfl rfl rfl rfl (by kernel_rfl) (fun _ => rfl) (fun v1 _ => ?_)
  (repeat (refine gG ?_; try intro _))
  refine gk_loop_sel (fun (q : Nat × Value × (List Int)) => match q with | (k2, v, Lc) => (k2 ≤ bm ∧ Lc = K ++ qsP (B.take k2) vol)) (fun (q : Nat × Value × (List Int)) => match q with | (k2, v, Lc) => [(1, .int .i64 vol), (5, v), (12, .slice bA bm bc), (13, .int .i64 (bm : Int)), (14, .int .i64 (k2 : Int))]) (fun (q : Nat × Value × (List Int)) => match q with | (k2, v, Lc) => [own 0 31 1 v (IE .u64) Lc]) (fun (q : Nat × Value × (List Int)) => match q with | (k2, v, Lc) => [sl bA 3 BE B, allF B BokD.f]) (fun (q : Nat × Value × (List Int)) => match q with | (k2, v, Lc) => bm - k2) (0, v1, K) rfl ⟨Nat.zero_le _, by simp [qsP]⟩ (by repeat (first | exact trivial | refine ⟨rfl, ?_⟩)) sA sS ?_
  rintro ⟨k2, v, Lc⟩ hI
  replace hI : (k2 ≤ bm ∧ Lc = K ++ qsP (B.take k2) vol) := hI
  change GK _ _ [(1, .int .i64 vol), (5, v), (12, .slice bA bm bc), (13, .int .i64 (bm : Int)), (14, .int .i64 (k2 : Int))] [own 0 31 1 v (IE .u64) Lc] [sl bA 3 BE B, allF B BokD.f]
  obtain ⟨hk2, hLc⟩ := hI
  have hq2 := qs_len (B.take k2) vol
  rw [List.length_take] at hq2
  have hLl : Lc.length ≤ 1000 := by rw [hLc, List.length_append]; omega
  by_cases hlt2 : k2 < bm
  · obtain ⟨y, hy⟩ : ∃ y, B[k2]? = some y := ⟨B[k2], List.getElem?_eq_getElem (by omega)⟩
    have hyB := List.mem_of_getElem? hy
    have hyn : y.s.n = y.L.length := (hcB y hyB).n
    have hy9 := hB9 y hyB
    have d1 : Der [allF B BokD.f] (sl y.s.A 1 (IE .i64) y.L) := Der.elem (L := B) (F := BokD.f) (x := y) (.mem (.head _)) hyB
    refine gk_der [allF B BokD.f] d1 sS ?_
    refine gk_elem (A := bA) (enc := BE) (L := B) k2 mE (by omega) (by decide) (fun kb ko y' eA hy' => ?_)
    subst eA
    obtain rfl : y = y' := by rw [hy] at hy'; exact Option.some.inj hy'
    (repeat' (first | (refine gG ?_; try intro _) | ((first | refine g_split rfl rfl tE (fun _ => ?_) (fun _ => ?_) | refine gk_cond rfl rfl tE (fun _ => ?_) (fun _ => ?_)) <;> (try first | (exfalso; omega; done) | (rename_i hx; exact absurd rfl hx) | (rename_i hx; cases hx; done)))))
    refine g_mv rfl ?_; refine mv_call_bel (fun w hk => cont_any y.s.A y.s.n y.s.c y.L vol w hyn (by rw [hyn]; unfold maxLen; omega) (hk.rR (φ := sl y.s.A 1 (IE .i64) y.L) mE)) rfl rfl rfl rfl rfl (by kernel_rfl) ?_
    by_cases hv : vol ∈ y.L
    · refine g_say 21 (.bool true) rfl (congrArg Value.bool (tB_true hv)) ?_
      (repeat' (first | (refine gG ?_; try intro _) | ((first | refine g_split rfl rfl tE (fun _ => ?_) (fun _ => ?_) | refine gk_cond rfl rfl tE (fun _ => ?_) (fun _ => ?_)) <;> (try first | (exfalso; omega; done) | (rename_i hx; exact absurd rfl hx) | (rename_i hx; cases hx; done)))))
      refine g_mv rfl (mv_append (L := Lc) rfl [y.q] rfl rfl rfl rfl elt_U (by intro _; first | ((repeat (first | with_reducible exact Upd.here _ | with_reducible apply Upd.there)); done) | ((repeat (first | exact Upd.here _ | apply Upd.there)); done) | fail) (src_blk mE rfl) rfl oneU (by simp only [maxLen, List.length_append, List.length_cons, List.length_nil]; omega) (by simp only [List.length_append, List.length_cons, List.length_nil]; omega) (Nat.zero_le _) (fun v2 => ?_))
      (repeat' (first | (refine gG ?_; try intro _) | ((first | refine g_split rfl rfl tE (fun _ => ?_) (fun _ => ?_) | refine gk_cond rfl rfl tE (fun _ => ?_) (fun _ => ?_)) <;> (try first | (exfalso; omega; done) | (rename_i hx; exact absurd rfl hx) | (rename_i hx; cases hx; done)))))
      refine gk_say 14 (.int .i64 ((k2 + 1 : Nat) : Int)) rfl (by first | (congr 1; done) | (congr 1; omega)) ?_
      refine gk_again_sel rfl (k2 + 1, v2, Lc ++ [y.q]) ⟨hlt2, by rw [hLc, List.append_assoc, ← qs_yes hy (.inr hv)]⟩ (by dsimp only; omega) (by repeat (first | exact trivial | refine ⟨rfl, ?_⟩)) sA sS
    · refine g_say 21 (.bool false) rfl (congrArg Value.bool (tB_false hv)) ?_
      (repeat' (first | (refine gG ?_; try intro _) | ((first | refine g_split rfl rfl tE (fun _ => ?_) (fun _ => ?_) | refine gk_cond rfl rfl tE (fun _ => ?_) (fun _ => ?_)) <;> (try first | (exfalso; omega; done) | (rename_i hx; exact absurd rfl hx) | (rename_i hx; cases hx; done)))))
      refine gk_say 14 (.int .i64 ((k2 + 1 : Nat) : Int)) rfl (by first | (congr 1; done) | (congr 1; omega)) ?_
      refine gk_again_sel rfl (k2 + 1, v, Lc) ⟨hlt2, by rw [hLc, ← qs_no hy (fun h => h.elim (fun h => by omega) hv)]⟩ (by dsimp only; omega) (by repeat (first | exact trivial | refine ⟨rfl, ?_⟩)) sA sS
  · have hkk2 : B.take k2 = B := List.take_of_length_le (by omega)
    rw [hkk2] at hLc
    rw [← hLc]
    obtain ⟨L0, hL0⟩ : ∃ L0, L0 = Lc := ⟨_, rfl⟩
    rw [← hL0] at hLl ⊢
    have hres : setP L0 = dd (Ex.srt L0) := rfl
    (repeat' (first | (refine gG ?_; try intro _) | ((first | refine g_split rfl rfl tE (fun _ => ?_) (fun _ => ?_) | refine gk_cond rfl rfl tE (fun _ => ?_) (fun _ => ?_)) <;> (try first | (exfalso; omega; done) | (rename_i hx; exact absurd rfl hx) | (rename_i hx; cases hx; done)))))
    refine g_mv rfl (mv_call_mod (φ := own 0 31 1 v (IE .u64) L0) (ψ := fun L' : List Int => own 0 31 1 v (IE .u64) L') (fun w1 hk => by exact SoW.sort_any v L0 w1 (by omega) (hk.rO (φ := own 0 31 1 v (IE .u64) L0) mE)) rfl rfl rfl rfl rfl (by kernel_rfl) (by intro _; first | ((repeat (first | with_reducible exact Upd.here _ | with_reducible apply Upd.there)); done) | ((repeat (first | exact Upd.here _ | apply Upd.there)); done) | fail) (fun S hS => ?_))
    obtain rfl := srtW_of hS.1 hS.2
    clear hS
    (repeat (refine gG ?_; try intro _))
    refine g_mv rfl (mv_call_mod (φ := own 0 31 1 v (IE .u64) (Ex.srt L0)) (ψ := fun s : Value => own 0 31 1 s (IE .u64) (dd (Ex.srt L0))) (fun w1 hk => by exact compW_own v (Ex.srt L0) w1 (by rw [Ex.srt_len]; omega) (hk.rO (φ := own 0 31 1 v (IE .u64) (Ex.srt L0)) mE)) rfl rfl rfl rfl rfl (by kernel_rfl) (by intro _; first | ((repeat (first | with_reducible exact Upd.here _ | with_reducible apply Upd.there)); done) | ((repeat (first | exact Upd.here _ | apply Upd.there)); done) | fail) (fun v2 _ => ?_))
    refine g_freeze _ (by intro _; first | ((repeat (first | with_reducible exact Upd.here _ | with_reducible apply Upd.there)); done) | ((repeat (first | exact Upd.here _ | apply Upd.there)); done) | fail) (fun A4 c4 hA4 hA41 hA42 hA43 => ?_); subst hA4
    (repeat (refine gG ?_; try intro _))
    refine gk_ret hT rfl rfl (.tmp rfl .nil) (fun w' hk => ?_)
    exact RetS.mk (⟨A4, (dd (Ex.srt L0)).length, c4⟩ : SlV) (by rw [hres]; exact ⟨rfl, hA41, hA42, hA43⟩) rfl hk (.cons (by rw [hres]; exact RS1.own hk mE) .nil)
theorem pall_any (c : CatD) (w : World) (hk0 : c.k.Ok c.K.length) (hb0 : c.b.Ok c.B.length) (hk9 : c.K.length ≤ 400) (hb9 : c.B.length ≤ 400) (h1 : Rd1 w (sl c.k.A 1 (IE .u64) c.K)) (h2 : Rd1 w (sl c.b.A 3 BE c.B)) :
    Calls Try.prog 50 [c.val].toArray w (RetS (fun q : SlV => q.Ok (ofP c.K (c.B.map BokD.d) 0).length) (fun q => q.v) (fun q => [sl q.A 1 (IE .u64) (ofP c.K (c.B.map BokD.d) 0)]) [] w) := by
  rw [ofP_qs]
  obtain ⟨nv, ng, nb, fl, ⟨vA, vm, vc⟩, V, ⟨gA, gm, gc⟩, G, ⟨bA, bm, bc⟩, B, ⟨kA, km, kd⟩, K, ⟨tA, tm, tc⟩, M⟩ := c
  have hkn : km = K.length := hk0.n
  have hbn : bm = B.length := hb0.n
  dsimp only at hk9 hb9 h1 h2 ⊢
  refine g_enter0 T [] [] [sl bA 3 BE B, sl kA 1 (IE .u64) K] Try.func50 rfl Try.ntmps50 rfl (Rds.cons h2 (.cons h1 .nil)).kn ?_
  (repeat (refine gG ?_; try intro _))
  rename_i g1
  refine g_mv rfl ?_; refine mv_call_rt (fun w hk => cloneU_own kA km kd K w hkn (by omega) (hk.pR (sl kA 1 (IE .u64) K) mE)) rfl rfl rfl rfl rfl (by kernel_rfl) (fun _ => rfl) (fun v1 _ => ?_)
  (repeat (refine gG ?_; try intro _))
  refine gk_loop_sel (fun (q : Nat × Value × (List Int)) => match q with | (k2, v, Lc) => (k2 ≤ bm ∧ Lc = K ++ qsP (B.take k2) 0)) (fun (q : Nat × Value × (List Int)) => match q with | (k2, v, Lc) => [(3, v), (10, .slice bA bm bc), (11, .int .i64 (bm : Int)), (12, .int .i64 (k2 : Int))]) (fun (q : Nat × Value × (List Int)) => match q with | (k2, v, Lc) => [own 0 31 1 v (IE .u64) Lc]) (fun (q : Nat × Value × (List Int)) => match q with | (k2, v, Lc) => [sl bA 3 BE B]) (fun (q : Nat × Value × (List Int)) => match q with | (k2, v, Lc) => bm - k2) (0, v1, K) rfl ⟨Nat.zero_le _, by simp [qsP]⟩ (by repeat (first | exact trivial | refine ⟨rfl, ?_⟩)) sA sS ?_
  rintro ⟨k2, v, Lc⟩ hI
  replace hI : (k2 ≤ bm ∧ Lc = K ++ qsP (B.take k2) 0) := hI
  change GK _ _ [(3, v), (10, .slice bA bm bc), (11, .int .i64 (bm : Int)), (12, .int .i64 (k2 : Int))] [own 0 31 1 v (IE .u64) Lc] [sl bA 3 BE B]
  obtain ⟨hk2, hLc⟩ := hI
  have hq2 := qs_len (B.take k2) 0
  rw [List.length_take] at hq2
  have hLl : Lc.length ≤ 1000 := by rw [hLc, List.length_append]; omega
  by_cases hlt2 : k2 < bm
  · obtain ⟨y, hy⟩ : ∃ y, B[k2]? = some y := ⟨B[k2], List.getElem?_eq_getElem (by omega)⟩
    refine gk_elem (A := bA) (enc := BE) (L := B) k2 mE (by omega) (by decide) (fun kb ko y' eA hy' => ?_)
    subst eA
    obtain rfl : y = y' := by rw [hy] at hy'; exact Option.some.inj hy'
    (repeat' (first | (refine gG ?_; try intro _) | ((first | refine g_split rfl rfl tE (fun _ => ?_) (fun _ => ?_) | refine gk_cond rfl rfl tE (fun _ => ?_) (fun _ => ?_)) <;> (try first | (exfalso; omega; done) | (rename_i hx; exact absurd rfl hx) | (rename_i hx; cases hx; done)))))
    refine g_mv rfl (mv_append (L := Lc) rfl [y.q] rfl rfl rfl rfl elt_U (by intro _; first | ((repeat (first | with_reducible exact Upd.here _ | with_reducible apply Upd.there)); done) | ((repeat (first | exact Upd.here _ | apply Upd.there)); done) | fail) (src_blk mE rfl) rfl oneU (by simp only [maxLen, List.length_append, List.length_cons, List.length_nil]; omega) (by simp only [List.length_append, List.length_cons, List.length_nil]; omega) (Nat.zero_le _) (fun v2 => ?_))
    (repeat' (first | (refine gG ?_; try intro _) | ((first | refine g_split rfl rfl tE (fun _ => ?_) (fun _ => ?_) | refine gk_cond rfl rfl tE (fun _ => ?_) (fun _ => ?_)) <;> (try first | (exfalso; omega; done) | (rename_i hx; exact absurd rfl hx) | (rename_i hx; cases hx; done)))))
    refine gk_say 12 (.int .i64 ((k2 + 1 : Nat) : Int)) rfl (by first | (congr 1; done) | (congr 1; omega)) ?_
    refine gk_again_sel rfl (k2 + 1, v2, Lc ++ [y.q]) ⟨hlt2, by rw [hLc, List.append_assoc, ← qs_yes hy (.inl rfl)]⟩ (by dsimp only; omega) (by repeat (first | exact trivial | refine ⟨rfl, ?_⟩)) sA sS
  · have hkk2 : B.take k2 = B := List.take_of_length_le (by omega)
    rw [hkk2] at hLc
    rw [← hLc]
    obtain ⟨L0, hL0⟩ : ∃ L0, L0 = Lc := ⟨_, rfl⟩
    rw [← hL0] at hLl ⊢
    have hres : setP L0 = dd (Ex.srt L0) := rfl
    (repeat' (first | (refine gG ?_; try intro _) | ((first | refine g_split rfl rfl tE (fun _ => ?_) (fun _ => ?_) | refine gk_cond rfl rfl tE (fun _ => ?_) (fun _ => ?_)) <;> (try first | (exfalso; omega; done) | (rename_i hx; exact absurd rfl hx) | (rename_i hx; cases hx; done)))))
    refine g_mv rfl (mv_call_mod (φ := own 0 31 1 v (IE .u64) L0) (ψ := fun L' : List Int => own 0 31 1 v (IE .u64) L') (fun w1 hk => by exact SoW.sort_any v L0 w1 (by omega) (hk.rO (φ := own 0 31 1 v (IE .u64) L0) mE)) rfl rfl rfl rfl rfl (by kernel_rfl) (by intro _; first | ((repeat (first | with_reducible exact Upd.here _ | with_reducible apply Upd.there)); done) | ((repeat (first | exact Upd.here _ | apply Upd.there)); done) | fail) (fun S hS => ?_))
    obtain rfl := srtW_of hS.1 hS.2
    clear hS
    (repeat (refine gG ?_; try intro _))
    refine g_mv rfl (mv_call_mod (φ := own 0 31 1 v (IE .u64) (Ex.srt L0)) (ψ := fun s : Value => own 0 31 1 s (IE .u64) (dd (Ex.srt L0))) (fun w1 hk => by exact compW_own v (Ex.srt L0) w1 (by rw [Ex.srt_len]; omega) (hk.rO (φ := own 0 31 1 v (IE .u64) (Ex.srt L0)) mE)) rfl rfl rfl rfl rfl (by kernel_rfl) (by intro _; first | ((repeat (first | with_reducible exact Upd.here _ | with_reducible apply Upd.there)); done) | ((repeat (first | exact Upd.here _ | apply Upd.there)); done) | fail) (fun v2 _ => ?_))
    refine g_freeze _ (by intro _; first | ((repeat (first | with_reducible exact Upd.here _ | with_reducible apply Upd.there)); done) | ((repeat (first | exact Upd.here _ | apply Upd.there)); done) | fail) (fun A4 c4 hA4 hA41 hA42 hA43 => ?_); subst hA4
    (repeat (refine gG ?_; try intro _))
    refine gk_ret hT rfl rfl (.tmp rfl .nil) (fun w' hk => ?_)
    exact RetS.mk (⟨A4, (dd (Ex.srt L0)).length, c4⟩ : SlV) (by rw [hres]; exact ⟨rfl, hA41, hA42, hA43⟩) rfl hk (.cons (by rw [hres]; exact RS1.own hk mE) .nil)
end Go.Proofs.Ytgpfedmfbkhhcaa.Po

