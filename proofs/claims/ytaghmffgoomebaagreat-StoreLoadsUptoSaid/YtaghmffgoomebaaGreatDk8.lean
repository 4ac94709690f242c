/- slices.Backward over late writes. A disk: Read. -/
import Derived.Test.YtaghmffgoomebaaGreatDk6
namespace Go.Proofs.YtaghmffgoomebaaGreat.Dk
open Go.RowKit Mem Gx Bytes
set_option linter.unusedVariables false
set_option linter.unusedSimpArgs false
set_option maxRecDepth 100000
set_option maxHeartbeats 1000000
/-- Late writes from behind. -/
def backs (W : List WrD) : List (Nat × WrD) := (W.zipIdx.map fun p => (p.2, p.1)).reverse
theorem backs_len (W : List WrD) : (backs W).length = W.length := by unfold backs; simp
theorem backs_at {W : List WrD} {q i : Nat} {x : WrD} (h : q + i + 1 = W.length) (hx : W[i]? = some x) : (backs W)[q]? = some (i, x) := by
  unfold backs
  rw [List.getElem?_reverse (by simp; omega), List.getElem?_map, List.getElem?_zipIdx]
  simp only [List.length_map, List.length_zipIdx]
  rw [show W.length - 1 - q = i by omega, hx]
  simp
theorem back_any (lA : Option Addr) (n lc : Nat) (w : World) :
    Calls Tryz.prog 106 [.slice lA n lc].toArray w (Ret (fun _ : Nat => True) (fun s => .func (.func 126) #[] #[.pointer (some ⟨s, 0, none⟩)]) (fun s => [blk s [.slice lA n lc] 112]) w) := by
  refine g_enter0 T [] [] [] Tryz.func106 rfl Tryz.ntmps106 rfl (Kn.start _) ?_
  (repeat (refine gG ?_; try intro _))
  rename_i g1
  refine g_yd rfl rfl (Ys.yd (ys_makeFuncB rfl rfl rfl)) ?_
  (repeat (refine gG ?_; try intro _))
  refine gk_ret hT rfl rfl (.tmp rfl .nil) (fun w' hk => ?_)
  exact Ret.mk g1 trivial rfl hk sA
theorem back_iter (W : List WrD) (lA : Option Addr) (n lc bt : Nat) (w1 : World) (hn : n = W.length) (h9 : n ≤ 100000) (hB : Rds w1 [blk bt [.slice lA n lc] 112, sl lA 2 WE W]) :
    IterOk Tryz.prog 126 [.pointer (some ⟨bt, 0, none⟩)] (fun p : Nat × WrD => [.int .i64 (p.1 : Nat), p.2.val]) (backs W) [blk bt [.slice lA n lc] 112, sl lA 2 WE W] w1 := by
  intro l τ Γ Iv Dn t0 h0 hΓ hdis hY
  refine g_enter0 T (finE (Γ t0) w1) [Γ t0] [blk bt [.slice lA n lc] 112, sl lA 2 WE W] Tryz.func126 rfl Tryz.ntmps126 rfl (Kn.startM hΓ (fun b hb => (finE_mem hΓ.2 b).2 hb) (fun ψ hψ => ⟨hB.mem hψ, fun b h1 => hdis ψ hψ b h1⟩)) ?_
  refine gk_rowR (g := bt) mE ?_
  (repeat (refine gG ?_; try intro _))
  refine gk_say 3 (.int .i64 ((n : Int) - 1 - ((0 : Nat) : Int))) rfl (by congr 1; omega) ?_
  refine gk_loop_sel (fun (q : Nat × τ) => match q with | (m, t) => (m ≤ n ∧ Iv m t)) (fun (q : Nat × τ) => match q with | (m, t) => [(0, .func (.yield l) #[] #[]), (1, .pointer (some ⟨bt, 0, none⟩)), (3, .int .i64 ((n : Int) - 1 - (m : Nat)))]) (fun (q : Nat × τ) => match q with | (m, t) => [Γ t]) (fun (q : Nat × τ) => match q with | (m, t) => [row bt 0 [.slice lA n lc], blk bt [.slice lA n lc] 112, sl lA 2 WE W]) (fun (q : Nat × τ) => match q with | (m, t) => n - m) (0, t0) rfl ⟨Nat.zero_le _, h0⟩ fS sA sS ?_
  rintro ⟨m, t⟩ hI
  replace hI : (m ≤ n ∧ Iv m t) := hI
  change GK _ _ [(0, .func (.yield l) #[] #[]), (1, .pointer (some ⟨bt, 0, none⟩)), (3, .int .i64 ((n : Int) - 1 - (m : Nat)))] [Γ t] [row bt 0 [.slice lA n lc], blk bt [.slice lA n lc] 112, sl lA 2 WE W]
  obtain ⟨hmn, hiv⟩ := hI
  by_cases hlt : m < n
  · obtain ⟨i, hi⟩ : ∃ i, m + i + 1 = n := ⟨n - m - 1, by omega⟩
    obtain ⟨x, hx⟩ : ∃ x, W[i]? = some x := ⟨W[i], List.getElem?_eq_getElem (by omega)⟩
    have hxm := backs_at (q := m) (by omega) hx
    refine gk_say 3 (.int .i64 ((i : Nat) : Int)) rfl (by first | (congr 1; done) | (congr 1; omega)) ?_
    refine gk_elem (enc := WE) (L := W) i mE (by omega) (by decide) (fun b2 o2 y2 eA2 hy2 => ?_)
    subst eA2
    obtain rfl : x = y2 := by rw [hx] at hy2; exact Option.some.inj hy2
    (repeat' (first | (refine gG ?_; try intro _) | ((first | refine g_split rfl rfl tE (fun _ => ?_) (fun _ => ?_) | refine gk_cond rfl rfl tE (fun _ => ?_) (fun _ => ?_)) <;> (try first | (exfalso; omega; done) | (rename_i hx; exact absurd rfl hx) | (rename_i hx; cases hx; done)))))
    refine g_say 16 x.val rfl rfl ?_
    refine g_yield Γ t (fun b t2 => (b = true → Iv (m + 1) t2) ∧ (b = false → Dn t2)) rfl rfl rfl rfl rfl rfl (fun w hk => hY m (i, x) t w hxm hiv (hk.outM (fun b hb => finE_in b hb) mE)) uD (fun b t2 hJ => ?_)
    cases b with
    | true =>
      (repeat (refine gG ?_; try intro _))
      refine gk_say 3 (.int .i64 ((n : Int) - 1 - ((m + 1 : Nat) : Int))) rfl (by congr 1; omega) ?_
      refine gk_again_sel rfl (m + 1, t2) ⟨hlt, hJ.1 rfl⟩ (by dsimp only; omega) fS sA sS
    | false =>
      (repeat (refine gG ?_; try intro _))
      refine gk_ret hT rfl rfl .nil (fun w' hk => ?_)
      exact ⟨⟨_, rfl⟩, t2, hk.outM (fun b hb => finE_in b hb) mE, .inr (hJ.2 rfl)⟩
  · obtain rfl : m = n := by omega
    refine gk_say 3 (.int .i64 (-1)) rfl (by congr 1; omega) ?_
    (repeat' (first | (refine gG ?_; try intro _) | ((first | refine g_split rfl rfl tE (fun _ => ?_) (fun _ => ?_) | refine gk_cond rfl rfl tE (fun _ => ?_) (fun _ => ?_)) <;> (try first | (exfalso; omega; done) | (rename_i hx; exact absurd rfl hx) | (rename_i hx; cases hx; done)))))
    refine gk_fin hT rfl rfl .nil (fun w' hk => ?_)
    exact ⟨⟨_, rfl⟩, t, hk.outM (fun b hb => finE_in b hb) mE, .inl (by rw [backs_len, ← hn]; exact hiv)⟩
end Go.Proofs.YtaghmffgoomebaaGreat.Dk
namespace Go.Proofs.YtaghmffgoomebaaGreat.Dk
open Go.RowKit Mem Gx Bytes
set_option linter.unusedVariables false
set_option linter.unusedSimpArgs false
set_option maxRecDepth 100000
set_option maxHeartbeats 1000000
theorem lateOf_app (a : Nat) (V : List Wr) : ∀ W : List Wr, lateOf a (W ++ V) = match lateOf a V with | some l => some l | none => lateOf a W
  | [] => by show lateOf a V = _; cases lateOf a V <;> rfl
  | x :: W => by
    show (match lateOf a (W ++ V) with | some l => some l | none => if x.1 = a then some x.2 else none) = _
    rw [lateOf_app a V W]
    cases lateOf a V with
    | some l => rfl
    | none => rfl
theorem lateOf_no (a : Nat) : ∀ W : List Wr, (∀ x ∈ W, x.1 ≠ a) → lateOf a W = none
  | [], _ => rfl
  | x :: W, h => by
    show (match lateOf a W with | some l => some l | none => if x.1 = a then some x.2 else none) = _
    rw [lateOf_no a W fun y hy => h y (.tail _ hy)]
    exact if_neg (h x (.head _))
/-- The last one that fits. -/
theorem lateOf_at {a i : Nat} {W : List WrD} {x : WrD} (hx : W[i]? = some x) (hxa : x.a = a) (hno : ∀ j y, i < j → W[j]? = some y → y.a ≠ a) : lateOf a (W.map WrD.c) = some x.d.L := by
  obtain ⟨h1, h2⟩ := List.getElem?_eq_some_iff.1 hx
  have e : W = W.take (i + 1) ++ W.drop (i + 1) := (List.take_append_drop _ _).symm
  have hd : lateOf a ((W.drop (i + 1)).map WrD.c) = none := lateOf_no a _ fun y hy => by
    obtain ⟨z, hz, rfl⟩ := List.mem_map.1 hy
    obtain ⟨j, hj⟩ := List.getElem?_of_mem hz
    rw [List.getElem?_drop] at hj
    exact hno (i + 1 + j) z (by omega) hj
  rw [e, List.map_append, lateOf_app, hd, List.take_succ_eq_append_getElem h1, h2, List.map_append]
  show lateOf a ((W.take i).map WrD.c ++ [x.c]) = _
  rw [lateOf_snoc, if_pos hxa]
theorem lateOf_none {a : Nat} {W : List WrD} (hno : ∀ (j : Nat) (y : WrD), W[j]? = some y → y.a ≠ a) : lateOf a (W.map WrD.c) = none := lateOf_no a _ fun y hy => by
  obtain ⟨z, hz, rfl⟩ := List.mem_map.1 hy
  obtain ⟨j, hj⟩ := List.getElem?_of_mem hz
  exact hno j z hj
theorem backs_get {W : List WrD} {q : Nat} {p : Nat × WrD} (h : (backs W)[q]? = some p) : q + p.1 + 1 = W.length ∧ W[p.1]? = some p.2 := by
  have hq := (List.getElem?_eq_some_iff.1 h).1
  rw [backs_len] at hq
  obtain ⟨x, hx⟩ : ∃ x, W[W.length - 1 - q]? = some x := ⟨W[W.length - 1 - q], List.getElem?_eq_getElem (by omega)⟩
  have h2 := backs_at (q := q) (i := W.length - 1 - q) (by omega) hx
  rw [h] at h2
  obtain rfl := Option.some.inj h2
  exact ⟨by show q + (W.length - 1 - q) + 1 = _; omega, hx⟩
theorem dread_bad (g : Nat) (sv lv : Value) (S : List SecD) (W : List WrD) (a : Int) (w : World) (ha : a < 0 ∨ (S.length : Int) ≤ a) (h : Rd1 w (dkF g ⟨sv, lv, S, W⟩)) :
    Calls Tryz.prog 77 [.pointer (some ⟨g, 0, none⟩), .int .i64 a].toArray w fun e w' => e = .returned (.tuple #[.slice none 0 0, .int .i64 11]) ∧ Below w.heap.size w w' := by
  obtain ⟨uA, uc, rfl, _, _, _, _⟩ := own_rdv (α := SecD) (Rd1.unpack h (φ := own 0 23 1 sv SE S) (.tail _ (.head _)))
  refine g_enter0 T [] [] [blk g [.slice uA S.length uc, lv, .bool false, .int .i64 0] 114] Tryz.func77 rfl Tryz.ntmps77 rfl (Rds.cons (Rd1.unpack h (.head _)) .nil).kn ?_
  refine gk_rowR (g := g) mE ?_
  (repeat (refine gG ?_; try intro _))
  rename_i g3 g4 g5
  refine gk_any [2, 3] (Cut _ (fun _ : Unit => [(3, .pointer (some ⟨g3, 0, none⟩)), (4, .pointer (some ⟨g4, 0, none⟩)), (5, .pointer (some ⟨g5, 0, none⟩)), (18, .bool true)]) (fun _ => [blk g4 [.slice none 0 0] 23, blk g5 [.int .i64 0] 39]) (fun _ => [])) rfl rfl (by kernel_rfl) ?_ (cut_k fun _ => ?_)
  · by_cases ha0 : a < 0
    · skip
      refine gb_take 0 rfl (by decide +kernel) rfl rfl (by first | exact ys_blk hT rfl rfl mE rfl rfl | exact ys_row hT rfl rfl mE rfl rfl | exact ys_row0 hT rfl rfl mE rfl rfl) sF ?_
      refine gY hT 1 ?_
      try (refine gb_say 9 (.bool true) rfl (congrArg Value.bool (tB_true (by omega))) ?_)
      refine gY hT 2 ?_
      first | refine gb_take 3 rfl (by decide +kernel) rfl rfl (by first | exact ys_blk hT rfl rfl mE rfl rfl | exact ys_row hT rfl rfl mE rfl rfl | exact ys_row0 hT rfl rfl mE rfl rfl) sF ?_ | refine gZ 3 ?_
      first | refine gY hT 4 ?_ | refine gZ 4 ?_
      first | refine gY hT 5 ?_ | refine gZ 5 ?_
      first | refine gY hT 6 ?_ | refine gZ 6 ?_
      first | refine gb_take 7 rfl (by decide +kernel) rfl rfl (by first | exact ys_blk hT rfl rfl mE rfl rfl | exact ys_row hT rfl rfl mE rfl rfl | exact ys_row0 hT rfl rfl mE rfl rfl) sF ?_ | refine gZ 7 ?_
      first | refine gY hT 8 ?_ | refine gZ 8 ?_
      first | refine gY hT 9 ?_ | refine gZ 9 ?_
      refine gY hT 10 ?_
      refine gb_nil (by decide +kernel) ?_
      exact ⟨(), fS, sA, sS⟩
    · skip
      refine gb_take 0 rfl (by decide +kernel) rfl rfl (by first | exact ys_blk hT rfl rfl mE rfl rfl | exact ys_row hT rfl rfl mE rfl rfl | exact ys_row0 hT rfl rfl mE rfl rfl) sF ?_
      refine gY hT 1 ?_
      try (refine gb_say 9 (.bool false) rfl (congrArg Value.bool (tB_false (by omega))) ?_)
      refine gY hT 2 ?_
      first | refine gb_take 3 rfl (by decide +kernel) rfl rfl (by first | exact ys_blk hT rfl rfl mE rfl rfl | exact ys_row hT rfl rfl mE rfl rfl | exact ys_row0 hT rfl rfl mE rfl rfl) sF ?_ | refine gZ 3 ?_
      first | refine gY hT 4 ?_ | refine gZ 4 ?_
      first | refine gY hT 5 ?_ | refine gZ 5 ?_
      first | refine gY hT 6 ?_ | refine gZ 6 ?_
      first | refine gb_take 7 rfl (by decide +kernel) rfl rfl (by first | exact ys_blk hT rfl rfl mE rfl rfl | exact ys_row hT rfl rfl mE rfl rfl | exact ys_row0 hT rfl rfl mE rfl rfl) sF ?_ | refine gZ 7 ?_
      first | refine gY hT 8 ?_ | refine gZ 8 ?_
      first | refine gY hT 9 ?_ | refine gZ 9 ?_
      try (refine gb_say 17 (.bool true) rfl (congrArg Value.bool (tB_true (by omega))) ?_)
      refine gY hT 10 ?_
      refine gb_nil (by decide +kernel) ?_
      exact ⟨(), fS, sA, sS⟩
  · (repeat (refine gG ?_; try intro _))
    refine gk_ret hT rfl rfl (.cell rfl mE rfl rfl (.cell rfl mE rfl rfl .nil)) (fun w' hk => ?_)
    exact ⟨rfl, hk.toBelow⟩
theorem dread_any (g : Nat) (sv lv : Value) (S : List SecD) (W : List WrD) (a : Nat) (w : World) (ho : DkOk S W) (hl : W.length ≤ 100000) (ha : a < S.length) (h : Rd1 w (dkF g ⟨sv, lv, S, W⟩)) :
    Calls Tryz.prog 77 [.pointer (some ⟨g, 0, none⟩), .int .i64 (a : Nat)].toArray w (Ret (fun s : SlV => s.Ok (dread (S.map SecD.L) (W.map WrD.c) a).length) (fun s => .tuple #[.slice s.A s.n s.c, .int .i64 0]) (fun s => [sl s.A 1 (IE .u8) (dread (S.map SecD.L) (W.map WrD.c) a)]) w) := by
  obtain ⟨uA, uc, rfl, _, _, _, hsu⟩ := own_rdv (α := SecD) (Rd1.unpack h (φ := own 0 23 1 sv SE S) (.tail _ (.head _)))
  obtain ⟨lA, lc, rfl, _, _, _, hsl⟩ := own_rdv (α := WrD) (Rd1.unpack h (φ := own 0 119 2 lv WE W) (.tail _ (.tail _ (.head _))))
  have hn := ho.n
  refine g_enter0 T [] [] [blk g [.slice uA S.length uc, .slice lA W.length lc, .bool false, .int .i64 0] 114, sl uA 1 SE S, sl lA 2 WE W, allF S secF, allF W wrF] Tryz.func77 rfl Tryz.ntmps77 rfl (Rds.cons (Rd1.unpack h (.head _)) (.cons hsu (.cons hsl (.cons (Rd1.unpack h (.tail _ (.tail _ (.tail _ (.head _))))) (.cons (Rd1.unpack h (.tail _ (.tail _ (.tail _ (.tail _ (.head _)))))) .nil))))).kn ?_
  refine gk_rowR (g := g) mE ?_
  (repeat (refine gG ?_; try intro _))
  rename_i g3 g4 g5
  refine gk_any [2, 3] (Cut _ (fun _ : Unit => [(0, .pointer (some ⟨g, 0, none⟩)), (3, .pointer (some ⟨g3, 0, none⟩)), (4, .pointer (some ⟨g4, 0, none⟩)), (5, .pointer (some ⟨g5, 0, none⟩)), (18, .bool false)]) (fun _ => [blk g3 [.int .i64 (a : Nat)] 3, blk g4 [.slice none 0 0] 23, blk g5 [.int .i64 0] 39]) (fun _ => [row g 0 [.slice uA S.length uc, .slice lA W.length lc, .bool false, .int .i64 0], blk g [.slice uA S.length uc, .slice lA W.length lc, .bool false, .int .i64 0] 114, sl uA 1 SE S, sl lA 2 WE W, allF S secF, allF W wrF])) rfl rfl (by kernel_rfl) ?_ (cut_k fun _ => ?_)
  · skip
    refine gb_take 0 rfl (by decide +kernel) rfl rfl (by first | exact ys_blk hT rfl rfl mE rfl rfl | exact ys_row hT rfl rfl mE rfl rfl | exact ys_row0 hT rfl rfl mE rfl rfl) sF ?_
    refine gY hT 1 ?_
    try (refine gb_say 9 (.bool false) rfl (congrArg Value.bool (tB_false (by omega))) ?_)
    refine gY hT 2 ?_
    first | refine gb_take 3 rfl (by decide +kernel) rfl rfl (by first | exact ys_blk hT rfl rfl mE rfl rfl | exact ys_row hT rfl rfl mE rfl rfl | exact ys_row0 hT rfl rfl mE rfl rfl) sF ?_ | refine gZ 3 ?_
    first | refine gY hT 4 ?_ | refine gZ 4 ?_
    first | refine gY hT 5 ?_ | refine gZ 5 ?_
    first | refine gY hT 6 ?_ | refine gZ 6 ?_
    first | refine gb_take 7 rfl (by decide +kernel) rfl rfl (by first | exact ys_blk hT rfl rfl mE rfl rfl | exact ys_row hT rfl rfl mE rfl rfl | exact ys_row0 hT rfl rfl mE rfl rfl) sF ?_ | refine gZ 7 ?_
    first | refine gY hT 8 ?_ | refine gZ 8 ?_
    first | refine gY hT 9 ?_ | refine gZ 9 ?_
    try (refine gb_say 17 (.bool false) rfl (congrArg Value.bool (tB_false (by omega))) ?_)
    refine gY hT 10 ?_
    refine gb_nil (by decide +kernel) ?_
    exact ⟨(), fS, sA, sS⟩
  · (repeat (refine gG ?_; try intro _))
    refine g_mv rfl ?_; refine mv_call_rt (fun w hk => back_any lA W.length lc w) rfl rfl rfl rfl rfl (by kernel_rfl) (fun _ => rfl) (fun bt _ => ?_)
    refine g_share (φ := blk bt [.slice lA W.length lc] 112) (by repeat (first | with_reducible exact Sel.here | with_reducible apply Sel.there)) ?_
    (repeat (refine gG ?_; try intro _))
    refine gk_range (σ := Unit) (σx := SlV) (α := Nat × WrD) (enc := fun p : Nat × WrD => [.int .i64 (p.1 : Nat), p.2.val]) (xs := backs W) (RA := [blk bt [.slice lA W.length lc] 112, sl lA 2 WE W]) (pl := [24, 25]) (gf := 126) (caps := [.pointer (some ⟨bt, 0, none⟩)]) (fun q _ => ∀ j y, W.length ≤ j + q → W[j]? = some y → y.a ≠ a) (fun _ => [blk g3 [.int .i64 (a : Nat)] 3, blk g4 [.slice none 0 0] 23, blk g5 [.int .i64 0] 39]) (fun c y => c = .ret ∧ y.Ok (dread (S.map SecD.L) (W.map WrD.c) a).length) (fun _ y => [blk g3 [.int .i64 (a : Nat)] 3, blk g4 [.slice y.A y.n y.c] 23, blk g5 [.int .i64 0] 39, sl y.A 1 (IE .u8) (dread (S.map SecD.L) (W.map WrD.c) a)]) () [] rfl rfl (by kernel_rfl) rfl (fun _ => rfl) (fun w hk => back_iter W lA W.length lc bt w rfl hl (.cons (hk.rR mE) (.cons (hk.rR mE) .nil))) sS (fun j y hj hy => absurd (List.getElem?_eq_some_iff.1 hy).1 (by omega)) sA (fun L q x s w hX hRc hI hOO hOut hOX hx hi hup => ?_) (fun D s hi => ?_) (fun D c y hy => ?_)
    · obtain ⟨X', l, D, rc, Inv', OO', Out', OX'⟩ := L
      dsimp only at hX hI hOO hOut hOX
      subst hX hI hOO hOut hOX
      obtain ⟨i, xa, ⟨⟨xA, xn, xc⟩, XL⟩⟩ := x
      obtain ⟨hqi, hxi⟩ := backs_get hx
      dsimp only at hqi hxi
      have hxm := List.mem_of_getElem? hxi
      have hxo := (ho.w _ hxm).1
      have hxn : xn = XL.length := hxo.s.n
      have hx8 : XL.length = 128 := hxo.k.1
      change GK _ _ _ [recF l (rc .ready none), dfr D, blk g3 [.int .i64 (a : Nat)] 3, blk g4 [.slice none 0 0] 23, blk g5 [.int .i64 0] 39] _
      refine gk_say 25 (.agg #[.int .i64 (xa : Nat), .slice xA xn xc]) rfl rfl ?_
      (repeat (refine gG ?_; try intro _))
      refine gk_begin rfl (by repeat (first | with_reducible exact Sel.here | with_reducible apply Sel.there)) (hRc.st _ _) (fun bF hbF => ?_)
      by_cases hxa : xa = a
      · have hlt : dread (S.map SecD.L) (W.map WrD.c) a = XL := by
          unfold dread
          rw [lateOf_at hxi hxa (fun j y hj hy => hi j y (by omega) hy)]
          rfl
        subst hlt
        (repeat' (first | (refine gG ?_; try intro _) | ((first | refine g_split rfl rfl tE (fun _ => ?_) (fun _ => ?_) | refine gk_cond rfl rfl tE (fun _ => ?_) (fun _ => ?_)) <;> (try first | (exfalso; omega; done) | (rename_i hx; exact absurd rfl hx) | (rename_i hx; cases hx; done)))))
        refine g_mv rfl ?_; refine mv_call_rt (fun w hk => clone_B xA xn xc (dread (S.map SecD.L) (W.map WrD.c) a) w hxn (by omega) (hk.pR (allF W wrF) mE _ hxm)) rfl rfl rfl rfl rfl (by kernel_rfl) (fun _ => rfl) (fun s hs => ?_)
        obtain ⟨cA, cn, cc⟩ := s
        refine g_say 32 (.slice cA cn cc) rfl rfl ?_
        (repeat (refine gG ?_; try intro _))
        refine gk_leave hRc ⟨cA, cn, cc⟩ rfl ⟨rfl, hs⟩ [blk g3 [.int .i64 (a : Nat)] 3, blk g4 [.slice cA cn cc] 23, blk g5 [.int .i64 0] 39, sl cA 1 (IE .u8) (dread (S.map SecD.L) (W.map WrD.c) a)] rfl hbF sA
      · (repeat' (first | (refine gG ?_; try intro _) | ((first | refine g_split rfl rfl tE (fun _ => ?_) (fun _ => ?_) | refine gk_cond rfl rfl tE (fun _ => ?_) (fun _ => ?_)) <;> (try first | (exfalso; omega; done) | (rename_i hx; exact absurd rfl hx) | (rename_i hx; cases hx; done)))))
        refine gk_round hRc () rfl (fun j y hj hy => ?_) [blk g3 [.int .i64 (a : Nat)] 3, blk g4 [.slice none 0 0] 23, blk g5 [.int .i64 0] 39] rfl hbF sA
        by_cases hji : j = i
        · subst hji
          rw [hxi] at hy
          obtain rfl := Option.some.inj hy
          exact hxa
        · exact hi j y (by omega) hy
    · have hdd : dread (S.map SecD.L) (W.map WrD.c) a = (S[a]'ha).L := by
        unfold dread
        rw [lateOf_none (fun j y hy => hi j y (by rw [backs_len]; omega) hy)]
        show ((S.map SecD.L)[a]?).getD [] = _
        rw [List.getElem?_map, List.getElem?_eq_getElem ha]
        rfl
      change GK _ _ _ [dfr D, blk g3 [.int .i64 (a : Nat)] 3, blk g4 [.slice none 0 0] 23, blk g5 [.int .i64 0] 39] _
      obtain ⟨d0, hd0⟩ : ∃ d, S[a]? = some d := ⟨S[a], List.getElem?_eq_getElem ha⟩
      have hd0m := List.mem_of_getElem? hd0
      have hd0o := ho.s _ hd0m
      have hd0L : (S[a]'ha).L = d0.L := by rw [(List.getElem?_eq_some_iff.1 hd0).2]
      rw [hd0L] at hdd
      obtain ⟨⟨xA, xn, xc⟩, XL⟩ := d0
      dsimp only at hdd
      have hxn : xn = XL.length := hd0o.s.n
      have hx8 : XL.length = 128 := hd0o.k.1
      subst hdd
      refine gk_elem (enc := SE) (L := S) a mE (by omega) (by decide) (fun b2 o2 y2 eA2 hy2 => ?_)
      subst eA2
      rw [hd0] at hy2
      obtain rfl := Option.some.inj hy2
      refine gk_any [1, 4, 6] (Cut _ (fun _ : {s : SlV // s.Ok (dread (S.map SecD.L) (W.map WrD.c) a).length} => [(4, .pointer (some ⟨g4, 0, none⟩)), (5, .pointer (some ⟨g5, 0, none⟩))]) (fun s => [dfr D, blk g4 [.slice s.1.A s.1.n s.1.c] 23, blk g5 [.int .i64 0] 39, sl s.1.A 1 (IE .u8) (dread (S.map SecD.L) (W.map WrD.c) a)]) (fun _ => [])) rfl rfl (by kernel_rfl) ?_ (cut_k fun s => ?_)
      · skip
        refine gY hT 0 ?_
        refine gY hT 1 ?_
        refine gY hT 2 ?_
        refine gb_take 3 rfl (by decide +kernel) rfl rfl (by first | exact ys_blk hT rfl rfl mE rfl rfl | exact ys_row hT rfl rfl mE rfl rfl | exact ys_row0 hT rfl rfl mE rfl rfl) sF ?_
        refine gb_take 4 rfl (by decide +kernel) rfl rfl (by first | exact ys_blk hT rfl rfl mE rfl rfl | exact ys_row hT rfl rfl mE rfl rfl | exact ys_row0 hT rfl rfl mE rfl rfl) sF ?_
        refine gY hT 5 ?_
        refine gb_take 6 rfl (by decide +kernel) rfl rfl (by first | exact ys_blk hT rfl rfl mE rfl rfl | exact ys_row hT rfl rfl mE rfl rfl | exact ys_row0 hT rfl rfl mE rfl rfl) sF ?_
        refine gb_only 7 (by decide +kernel) rfl rfl ?_
        refine mv_call_rt (fun w hk => clone_B xA xn xc (dread (S.map SecD.L) (W.map WrD.c) a) w hxn (by omega) (hk.pR (allF S secF) mE _ hd0m)) rfl rfl rfl rfl rfl (by kernel_rfl) (fun _ => rfl) (fun ⟨cA, cn, cc⟩ hs => ?_)
        refine ⟨sF, ?_⟩
        try (refine gb_say 40 (.slice cA cn cc) rfl rfl ?_)
        refine gb_only 8 (by decide +kernel) rfl rfl ?_
        first | (refine mv_box rfl rfl rfl rfl ?_; intro _) | (refine mv_alloc rfl hT rfl rfl ?_; intro _) | refine mv_store hT rfl rfl rfl rfl rfl rfl sO rfl ?_ | (refine mv_buildSlice rfl hT rfl rfl rfl rfl rfl rfl rfl rfl ?_; intro _)
        refine ⟨sF, ?_⟩
        refine gb_only 9 (by decide +kernel) rfl rfl ?_
        first | (refine mv_box rfl rfl rfl rfl ?_; intro _) | (refine mv_alloc rfl hT rfl rfl ?_; intro _) | refine mv_store hT rfl rfl rfl rfl rfl rfl sO rfl ?_ | (refine mv_buildSlice rfl hT rfl rfl rfl rfl rfl rfl rfl rfl ?_; intro _)
        refine ⟨sF, ?_⟩
        refine gb_nil (by decide +kernel) ?_
        exact ⟨⟨⟨cA, cn, cc⟩, hs⟩, fS, sA, sS⟩
      · obtain ⟨s, hs⟩ := s
        dsimp only
        refine gk_retM hT (.cons (by repeat (first | with_reducible exact Sel.here | with_reducible apply Sel.there)) .nil) rfl rfl (.cell rfl mE rfl rfl (.cell rfl mE rfl rfl .nil)) (fun w' hk => ?_)
        exact Ret.mk s hs rfl hk sA
    · obtain ⟨rfl, hyo⟩ := hy
      change GK _ _ _ [dfr D, blk g3 [.int .i64 (a : Nat)] 3, blk g4 [.slice y.A y.n y.c] 23, blk g5 [.int .i64 0] 39, sl y.A 1 (IE .u8) (dread (S.map SecD.L) (W.map WrD.c) a)] _
      refine gk_retM hT (.cons (by repeat (first | with_reducible exact Sel.here | with_reducible apply Sel.there)) .nil) rfl rfl (.cell rfl mE rfl rfl (.cell rfl mE rfl rfl .nil)) (fun w' hk => ?_)
      exact Ret.mk y hyo rfl hk sA
end Go.Proofs.YtaghmffgoomebaaGreat.Dk
