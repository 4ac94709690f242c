/- slices.Replace at pointers to nodes. -/
import Derived.Test.YtaghmffgoomebaaGreatNdO
import Derived.Test.YtaghmffgoomebaaGreatGxL
set_option linter.unusedVariables false
set_option linter.unusedSimpArgs false
namespace Go.Proofs.YtaghmffgoomebaaGreat.Nd
open Go.RowKit Mem Gx
set_option maxRecDepth 100000
set_option maxHeartbeats 4000000
theorem zos : ∃ u, (∀ w, (zeroValue 53).run Tryz.prog w = .ok u w) ∧ u.cells.size = 1 ∧ ∀ v ∈ u.cells, v.oneCell' = true := by
 have h : (Tryz.prog.info? 53).map (fun i => i.zero) = some (some (.pointer none)) := by kernel_rfl
 refine ⟨.pointer none, fun w => ?_, rfl, ?_⟩
 ·cases hi : Tryz.prog.info? 53 with
  | none => rw [hi] at h; cases h
  | some i =>
    rw [hi] at h
    have hz : i.zero = some (.pointer none) := by simpa using h
    simp [zeroValue, typeInfo, hi, hz]
 ·intro v hv
  simp [Value.cells] at hv
  subst hv; rfl
theorem oneP : ∀ (x j : Nat), (PE x j).oneCell' = true := fun _ _ => rfl
theorem lenP (M : List Nat) : (flatF 1 PE M).length = M.length := by rw [zaq, Nat.mul_one]
section
variable {L V : List Nat} {rest : List Value} {i j n m : Nat}
theorem srcJ (hj : j ≤ L.length) : flatF 1 PE (L.drop j) = ((flatF 1 PE L ++ rest).drop j).take (L.length - j) := by
 have h1 := zfC 1 PE L j hj
 rw [Nat.mul_one] at h1
 rw [List.drop_append_of_le_length (by rw [lenP]; omega), h1, List.take_left' (by rw [lenP, List.length_drop])]
theorem cutJ (hi : i ≤ L.length) : flatF 1 PE L = flatF 1 PE (L.take i) ++ flatF 1 PE (L.drop i) := by rw [← zao, List.take_append_drop]
theorem lenT (hi : i ≤ L.length) : (flatF 1 PE (L.take i)).length = i := by rw [lenP, List.length_take, Nat.min_eq_left hi]
theorem lay1 (hi : i ≤ L.length) : lay (flatF 1 PE L ++ rest) i (flatF 1 PE V) = flatF 1 PE (L.take i) ++ flatF 1 PE V ++ (flatF 1 PE (L.drop i) ++ rest).drop V.length := by
 rw [cutJ hi, List.append_assoc, zbl _ _ _ (lenT hi).symm, lenP]
theorem srcJ1 (hi : i ≤ L.length) (hj : j ≤ L.length) (hij : i + V.length ≤ j) : flatF 1 PE (L.drop j) = ((lay (flatF 1 PE L ++ rest) i (flatF 1 PE V)).drop j).take (L.length - j) := by
 rw [lay1 hi]
 have e1 : (flatF 1 PE (L.take i) ++ flatF 1 PE V ++ (flatF 1 PE (L.drop i) ++ rest).drop V.length).drop j = (flatF 1 PE L ++ rest).drop j := by
  have h1 : (flatF 1 PE (L.take i) ++ flatF 1 PE V).length = i + V.length := by rw [List.length_append, lenT hi, lenP]
  rw [List.drop_append, h1, List.drop_of_length_le (by rw [h1]; omega), List.nil_append, List.drop_drop, cutJ (L := L) hi, List.append_assoc, List.drop_append (l₁ := flatF 1 PE (L.take i)), lenT hi, List.drop_of_length_le (l := flatF 1 PE (L.take i)) (by rw [lenT hi]; omega), List.nil_append]
  congr 1
  omega
 rw [e1]
 exact srcJ hj
theorem layA (hi : i ≤ L.length) : (lay (lay (flatF 1 PE L ++ rest) i (flatF 1 PE V)) (i + V.length) (flatF 1 PE (L.drop j))) = flatF 1 PE (L.take i ++ V ++ L.drop j) ++ ((flatF 1 PE (L.drop i) ++ rest).drop V.length).drop (L.length - j) := by
 rw [lay1 hi, zbl _ _ _ (by rw [List.length_append, lenT hi, lenP]), zao, zao, lenP, List.length_drop]
theorem layB (hi : i ≤ L.length) (hr : V.length ≤ (flatF 1 PE (L.drop i) ++ rest).length) : ∃ r, (lay (lay (flatF 1 PE L ++ rest) (i + V.length) (flatF 1 PE (L.drop j))) i (flatF 1 PE V)) = flatF 1 PE (L.take i ++ V ++ L.drop j) ++ r := by
 rw [cutJ (L := L) hi, List.append_assoc, zja _ _ _ (k := V.length) (by rw [lenT hi]), zbl _ _ _ (lenT hi).symm, lenP]
 have e5 : (lay (flatF 1 PE (L.drop i) ++ rest) V.length (flatF 1 PE (L.drop j))).drop V.length = flatF 1 PE (L.drop j) ++ (flatF 1 PE (L.drop i) ++ rest).drop (V.length + (flatF 1 PE (L.drop j)).length) := by
  unfold lay
  rw [List.append_assoc, List.drop_left' (by rw [List.length_take]; omega)]
 rw [e5, ← List.append_assoc, ← zao, ← zao]
 exact ⟨_, rfl⟩
theorem takeC (hi : i ≤ L.length) (vs : List Value) : (lay (lay (flatF 1 PE L ++ rest) i (flatF 1 PE V)) (i + V.length) vs).take (i + V.length) = flatF 1 PE (L.take i ++ V) := by
 rw [lay1 hi, zbl _ _ _ (by rw [List.length_append, lenT hi, lenP]), zao, List.append_assoc (flatF 1 PE (L.take i) ++ flatF 1 PE V)]
 exact List.take_left' (by rw [List.length_append, lenT hi, lenP])
theorem takeD (hi : i ≤ L.length) : (lay (flatF 1 PE L ++ rest) i (flatF 1 PE V)).take (i + V.length) = flatF 1 PE (L.take i ++ V) := by
 rw [lay1 hi, zao]
 exact List.take_left' (by rw [List.length_append, lenT hi, lenP])
end
section
variable {X : Cx} {f : Fr} {O O' R : List Fact} {ks k : List KI} {ops lo : List Oper} {E : List Nat} {w0 w w' : World} {o : Oper} {N : Fr → List Fact → List Fact → Prop} {g T : Nat} {cs : List Value}
theorem zhf {dd : Nat} (hd : o.dst = some dd) {c : Call} {x : Operand} {fid : Nat} {fn : Func} {g1 g2 o1 o2 la ca lb cb tS tR e sz T1 T2 : Nat} {cs1 cs2 : List Value} (ho : o.op = .call c) (hc : c.callee = .value x) (hx : Gx.look X.n f x = some (.func (.func fid) #[] #[]))
 (ha : lookL X.n f c.args.toList = some [.slice (some ⟨g1, o1, none⟩) la ca, .slice (some ⟨g2, o2, none⟩) lb cb]) (hf : X.P.funcs[fid]? = some fn) (hname : (fn.name == "runtime.NumGoroutine") = false) (hb : fn.body.isNone = true) (hn : Extern.findNext fn = none) (he : Extern.find fn = some (Extern.SlicesOverlaps.overlaps #[tS, tS] #[tR]))
 (ht : X.P.underlying tS = some (.slice e)) (hz : szIs X.P e sz = true) (h1 : blk g1 cs1 T1 ∈ O) (h2 : blk g2 cs2 T2 ∈ R) (hk2 : cs2.length ≠ 0) (hg : N ((dd, .bool false) :: f) O R) : Mv X f O R o N := fun ac w hr hk K Q hK => by
 have ha' := zaR hr ha
 have hx' := hr.look hx
 have hb1 : w.heap[g1]? = some (.cells cs1.toArray T1 (0, 0)) := hk.pO _ h1
 have hb2 : w.heap[g2]? = some (.cells cs2.toArray T2 (0, 0)) := hk.pR _ h2
 have hne : g1 ≠ g2 := fun h => hk.disR _ h1 _ h2 g1 rfl h
 have hs1 : w.shape? g1 = some (T1, cs1.toArray.size) := by unfold World.shape?; rw [hb1]
 have hs2 : w.shape? g2 = some (T2, cs2.toArray.size) := by unfold World.shape?; rw [hb2]
 have hov := Lib.run_overlaps_apart (P := X.P) w tS tR e ht sz (fun w => Gx.run_sizeOf hz w) ⟨g1, o1, none⟩ ⟨g2, o2, none⟩ la ca lb cb hne T1 T2 _ _ hs1 hs2 (by simpa using hk2) (by unfold World.frozen?; rw [hb1]; simp) (by unfold World.frozen?; rw [hb1]; simp)
 have hcall := run_callFunc_extern (P := X.P) hf hname hb hn he #[.slice (some ⟨g1, o1, none⟩) la ca, .slice (some ⟨g2, o2, none⟩) lb cb] w
 rw [hov] at hcall
 obtain ⟨cal, args, tys⟩ := c
 simp only at hc ha'
 subst hc
 have e' : args.map ac.eval = #[.slice (some ⟨g1, o1, none⟩) la ca, .slice (some ⟨g2, o2, none⟩) lb cb] := by apply Array.ext'; simpa using ha'
 unfold Oper.wp
 have : (execOp ac.eval o).run X.P w = .ok (.value (.bool false)) w := by
  simp [execOp, ho, resolve, hx', Deferred.ofValue, invoke, e', hcall]
 rw [this]
 exact hK _ _ _ _ _ hg (hr.put1 hd _) hk
end
theorem zcu (base g n c : Nat) (L : List Nat) (i j : Nat) (V : List Nat) (g0 m mc : Nat) (w : World) (h : OwnL w base 53 1 (.slice (some ⟨g, 0, none⟩) n c) PE L) (h9 : L.length ≤ 100000) (h8 : V.length ≤ 100000) (hm : m = V.length) (hmc : m ≤ mc) (hm0 : 0 < m) (hij : i < j) (hj : j ≤ L.length) (hb : base ≤ w.heap.size)
 (h0 : w.heap[g0]? = some (.cells (flatF 1 PE V).toArray 53 (0, 0))) (hne : g ≠ g0) :
 Calls Tryz.prog 62 [.slice (some ⟨g, 0, none⟩) n c, .int .i64 i, .int .i64 j, .slice (some ⟨g0, 0, none⟩) m mc].toArray w fun e w' => ∃ v', e = .returned v' ∧ OwnL w' base 53 1 v' PE (L.take i ++ V ++ L.drop j) ∧ Grew w w' (.slice (some ⟨g, 0, none⟩) n c) v' := by
 have hnl : n = L.length ∧ n ≤ c ∧ c ≤ maxLen := by
  obtain ⟨A', c', hv, _, h1, h2, _⟩ := OwnL.sl h
  injection hv with e1 e2 e3
  exact ⟨e2, by omega, by omega⟩
 obtain ⟨hn, hnc, hcm0⟩ := hnl
 have hk0 : Kn (ownE (.slice (some ⟨g, 0, none⟩) n c)) w w [own base 53 1 (.slice (some ⟨g, 0, none⟩) n c) PE L] [blk g0 (flatF 1 PE V) 53] := by
  refine (Kn.startG h).addR _ h0 (fun b hb => ?_) (fun φ hφ b hb hb' => ?_)
  ·have : b = g0 := hb
   subst this
   rcases Nat.lt_or_ge b w.heap.size with h' | h'
   ·exact h'
   ·rw [Array.getElem?_eq_none h'] at h0; cases h0
  ·obtain rfl := m1 hφ
   have e1 : b = g0 := hb'
   have e2 : (Value.slice (some ⟨g, 0, none⟩) n c).ownBlock = some b := hb
   injection e2 with e2
   exact hne (e2.trans e1)
 refine zab T (ownE (.slice (some ⟨g, 0, none⟩) n c)) [own base 53 1 (.slice (some ⟨g, 0, none⟩) n c) PE L] [blk g0 (flatF 1 PE V) 53] Tryz.func62 rfl Tryz.ntmps62 rfl hk0 ?_
 have lR : (L.take i ++ V ++ L.drop j).length = i + m + (n - j) := by simp only [List.length_append, List.length_take, List.length_drop]; omega
 have hsV : flatF 1 PE V = ((flatF 1 PE V).drop 0).take m := by rw [List.drop_zero, List.take_of_length_le (by rw [lenP]; omega)]
 (repeat (refine gG ?_; try intro _))
 refine g_yd rfl rfl (Ys.yd (zet hT i j rfl rfl rfl rfl rfl rfl rfl (by omega) (by omega))) ?_
 by_cases hjn : j = n
 ·(repeat' (first | (refine gH ?_; try intro _) | (refine gS ?_ ?_ <;> intro _) | fail))
  refine g_yd rfl rfl (Ys.yd (zaU hT i rfl rfl rfl rfl rfl (by omega))) ?_
  refine zaK 32 (.slice (some ⟨g, 0, none⟩) i c) rfl (by rw [zgQ]) ?_
  (repeat (refine gG ?_; try intro _))
  by_cases hroom : i + m ≤ c
  ·refine zbD (α := Nat) (sz := 1) (enc := PE) (L := L) (by decide) uD (fun rest hl0 _ _ hcm hbg => ?_)
   refine g_mv rfl (zli rfl (flatF 1 PE V) rfl rfl rfl rfl zij (by first | ((repeat (first | with_reducible exact Upd.here _ | with_reducible apply Upd.there)); done) | ((repeat (first | exact Upd.here _ | apply Upd.there)); done) | fail) (zcf (m := m) mE _ hsV) (by rw [lenP]; omega) hroom (by rw [lenP, hl0]; omega) (zbd 1 PE oneP _) ?_)
   rw [Nat.mul_one]
   have hll : (lay (flatF 1 PE L ++ rest) i (flatF 1 PE V)).length = c := by rw [zbR (by rw [lenP, hl0]; omega), hl0, Nat.mul_one]
   have eD : L.take i ++ V ++ L.drop j = L.take i ++ V := by rw [show L.drop j = [] from List.drop_of_length_le (by omega), List.append_nil]
   by_cases hless : i + m < n
   ·(repeat' (first | (refine gH ?_; try intro _) | (refine gS ?_ ?_ <;> intro _) | fail))
    refine g_yd rfl rfl (Ys.yd (zav hT (i + m) rfl rfl rfl rfl rfl (by omega))) ?_
    refine zaK 43 (.slice (some ⟨g, i + m, none⟩) (n - (i + m)) (c - (i + m))) rfl (by rw [zbo (by omega), Nat.mul_one]) ?_
    (repeat (refine gG ?_; try intro _))
    refine g_mv rfl (zgc rfl hT rfl rfl rfl rfl rfl zos uD (by rw [hll]; omega) (fun vs hvs => ?_))
    (repeat (refine gG ?_; try intro _))
    refine zbg (sz := 1) (enc := PE) (n := i + m) (c := c) (base := base) (L.take i ++ V ++ L.drop j) (by decide) (by first | ((repeat (first | with_reducible exact Upd.here _ | with_reducible apply Upd.there)); done) | ((repeat (first | exact Upd.here _ | apply Upd.there)); done) | fail) (by rw [zbR (by rw [hvs, hll]; omega), hll, Nat.mul_one]) (by rw [lR]; omega) hroom hcm hbg (by rw [eD, hm, Nat.mul_one]; exact takeC (by omega) vs) ?_
    refine zad hT rfl rfl (.tmp rfl .nil) (fun w' hk => ?_)
    obtain ⟨q1, q2⟩ := Kn.outG' (L := L.take i ++ V ++ L.drop j) (base := base) (e := 53) (sz := 1) (enc := PE) (v := .slice (some ⟨g, 0, none⟩) n c) hk mE
    exact ⟨_, rfl, q1, q2⟩
   ·(repeat' (first | (refine gH ?_; try intro _) | (refine gS ?_ ?_ <;> intro _) | fail))
    refine zbg (sz := 1) (enc := PE) (n := i + m) (c := c) (base := base) (L.take i ++ V ++ L.drop j) (by decide) (by first | ((repeat (first | with_reducible exact Upd.here _ | with_reducible apply Upd.there)); done) | ((repeat (first | exact Upd.here _ | apply Upd.there)); done) | fail) (by rw [hll, Nat.mul_one]) (by rw [lR]; omega) hroom hcm hbg (by rw [eD, hm, Nat.mul_one]; exact takeD (by omega)) ?_
    refine zad hT rfl rfl (.tmp rfl .nil) (fun w' hk => ?_)
    obtain ⟨q1, q2⟩ := Kn.outG' (L := L.take i ++ V ++ L.drop j) (base := base) (e := 53) (sz := 1) (enc := PE) (v := .slice (some ⟨g, 0, none⟩) n c) hk mE
    exact ⟨_, rfl, q1, q2⟩
  ·refine zbD (α := Nat) (sz := 1) (enc := PE) (L := L) (by decide) uD (fun rest hl0 _ _ hcm hbg => ?_)
   refine ze0 (sz := 1) (enc := PE) (n := i) (c := c) (base := base) (L.take i) (by decide) (by first | ((repeat (first | with_reducible exact Upd.here _ | with_reducible apply Upd.there)); done) | ((repeat (first | exact Upd.here _ | apply Upd.there)); done) | fail) hl0 (by rw [List.length_take]; omega) (by omega) hcm hbg (by rw [cutJ (i := i) (by omega), List.append_assoc]; exact List.take_left' (by rw [lenT (by omega), Nat.mul_one])) ?_
   have lT1 : (L.take i ++ V).length = i + m := by rw [List.length_append, List.length_take]; omega
   have eD : L.take i ++ V ++ L.drop j = L.take i ++ V := by rw [show L.drop j = [] from List.drop_of_length_le (by omega), List.append_nil]
   refine g_mv rfl (zac rfl V rfl rfl rfl rfl zij uD (ziG mE rfl) hm oneP (by rw [List.length_take]; unfold maxLen; omega) (by rw [List.length_take]; omega) hb (fun v1 => ?_))
   refine zc5 v1 mE (fun A1 c1 hv1 hc1 _ _ => ?_)
   subst hv1
   (repeat' (first | (refine gH ?_; try intro _) | (refine gS ?_ ?_ <;> intro _) | fail))
   refine zad hT rfl rfl (.tmp rfl .nil) (fun w' hk => ?_)
   obtain ⟨q1, q2⟩ := Kn.outG (L := L.take i ++ V) (base := base) (e := 53) (sz := 1) (enc := PE) (v := .slice (some ⟨g, 0, none⟩) n c) (v' := .slice A1 (L.take i ++ V).length c1) hk mE (by omega)
   exact ⟨_, rfl, by rw [eD]; exact q1, q2⟩
 ·have hjn' : j < n := by omega
  (repeat' (first | (refine gH ?_; try intro _) | (refine gS ?_ ?_ <;> intro _) | fail))
  refine zas [0, 1] (Cut _ (fun _ : Unit => [(0, .slice (some ⟨g, 0, none⟩) n c), (1, .int .i64 i), (2, .int .i64 j), (3, .slice (some ⟨g0, 0, none⟩) m mc), (10, .int .i64 ((i + m + (n - j) : Nat) : Int))]) (fun _ => [own base 53 1 (.slice (some ⟨g, 0, none⟩) n c) PE L]) (fun _ => [blk g0 (flatF 1 PE V) 53])) rfl rfl kR ?_ (zaD fun _ => ?_)
  ·skip
   refine gY hT 0 ?_
   refine gY hT 1 ?_
   refine zaz 2 rfl dK rfl rfl (zaU hT i rfl rfl rfl rfl rfl (by omega)) sF ?_
   try (refine zam 47 (.slice (some ⟨g, 0, none⟩) i c) rfl (by rw [zgQ]) ?_)
   refine gY hT 3 ?_
   refine gY hT 4 ?_
   refine gY hT 5 ?_
   refine gY hT 6 ?_
   refine gY hT 7 ?_
   refine gY hT 8 ?_
   refine zaz 9 rfl dK rfl rfl (zav hT j rfl rfl rfl rfl rfl (by omega)) sF ?_
   try (refine zam 54 (.slice (some ⟨g, j, none⟩) (n - j) (c - j)) rfl (by rw [zbo (by omega), Nat.mul_one]) ?_)
   refine gY hT 10 ?_
   refine gY hT 11 ?_
   refine gY hT 12 ?_
   try (refine zam 10 (.int .i64 ((i + m + (n - j) : Nat) : Int)) rfl (congrArg (Value.int .i64) (by omega)) ?_)
   refine zak dK ?_
   exact ⟨(), fS, sA, sS⟩
  ·by_cases hroom : i + m + (n - j) ≤ c
   ·(repeat (refine gG ?_; try intro _))
    refine g_yd rfl rfl (Ys.yd (ziv hT rfl rfl rfl rfl rfl)) ?_
    (repeat' (first | (refine gH ?_; try intro _) | (refine gS ?_ ?_ <;> intro _) | fail))
    refine g_yd rfl rfl (Ys.yd (zaU hT (i + m + (n - j)) rfl rfl rfl rfl rfl hroom)) ?_
    refine zaK 86 (.slice (some ⟨g, 0, none⟩) (i + m + (n - j)) c) rfl (by rw [zgQ]) ?_
    by_cases hfit : i + m ≤ j
    ·(repeat' (first | (refine gH ?_; try intro _) | (refine gS ?_ ?_ <;> intro _) | fail))
     refine g_yd rfl rfl (Ys.yd (zav hT i rfl rfl rfl rfl rfl (by omega))) ?_
     refine zaK 95 (.slice (some ⟨g, i, none⟩) (i + m + (n - j) - i) (c - i)) rfl (by rw [zbo (by omega), Nat.mul_one]) ?_
     (repeat (refine gG ?_; try intro _))
     refine zbD (α := Nat) (sz := 1) (enc := PE) (L := L) (by decide) uD (fun rest hl0 _ _ hcm hbg => ?_)
     refine g_mv rfl (zcd rfl hT (flatF 1 PE V) rfl rfl rfl rfl rfl (by first | ((repeat (first | with_reducible exact Upd.here _ | with_reducible apply Upd.there)); done) | ((repeat (first | exact Upd.here _ | apply Upd.there)); done) | fail) (zcf (m := m) mE _ hsV) (by rw [lenP, Nat.mul_one]; show _ = min m (i + m + (n - j) - i); omega) (by rw [lenP, hl0]; omega) (zbd 1 PE oneP _) ?_)
     (repeat (refine gG ?_; try intro _))
     have hll : (lay (flatF 1 PE L ++ rest) i (flatF 1 PE V)).length = c := by rw [zbR (by rw [lenP, hl0]; omega), hl0, Nat.mul_one]
     have hsrc := srcJ1 (L := L) (V := V) (rest := rest) (i := i) (j := j) (by omega) (by omega) (by omega)
     refine zas [1] (Cut _ (fun _ : Unit => [(0, .slice (some ⟨g, 0, none⟩) n c), (10, .int .i64 ((i + m + (n - j) : Nat) : Int)), (12, .slice (some ⟨g, 0, none⟩) (i + m + (n - j)) c)]) (fun _ => [blk g (lay (lay (flatF 1 PE L ++ rest) i (flatF 1 PE V)) (i + m) (flatF 1 PE (L.drop j))) 53]) (fun _ => [])) rfl rfl kR ?_ (zaD fun _ => ?_)
     ·skip
      refine gY hT 0 ?_
      refine gY hT 1 ?_
      refine gY hT 2 ?_
      refine gY hT 3 ?_
      refine gY hT 4 ?_
      refine zaz 5 rfl dK rfl rfl (zav hT (i + m) rfl rfl rfl rfl (by push_cast; rfl) (by omega)) sF ?_
      try (refine zam 103 (.slice (some ⟨g, i + m, none⟩) (i + m + (n - j) - (i + m)) (c - (i + m))) rfl (by rw [zbo (by omega), Nat.mul_one]) ?_)
      refine gY hT 6 ?_
      refine gY hT 7 ?_
      refine zaz 8 rfl dK rfl rfl (zav hT j rfl rfl rfl rfl rfl (by omega)) sF ?_
      try (refine zam 106 (.slice (some ⟨g, j, none⟩) (n - j) (c - j)) rfl (by rw [zbo (by omega), Nat.mul_one]) ?_)
      refine gP 9 ?_
      refine zcd rfl hT (flatF 1 PE (L.drop j)) rfl rfl rfl rfl rfl (by first | ((repeat (first | with_reducible exact Upd.here _ | with_reducible apply Upd.there)); done) | ((repeat (first | exact Upd.here _ | apply Upd.there)); done) | fail) (zcU (m := L.length - j) mE _ hsrc) (by rw [lenP, List.length_drop, Nat.mul_one]; show _ = min (n - j) (i + m + (n - j) - (i + m)); omega) (by rw [lenP, List.length_drop, hll]; omega) (zbd 1 PE oneP _) ?_
      refine ⟨sF, ?_⟩
      refine zak dK ?_
      exact ⟨(), fS, sA, sS⟩
     ·have hl2 : (lay (lay (flatF 1 PE L ++ rest) i (flatF 1 PE V)) (i + m) (flatF 1 PE (L.drop j))).length = c := by rw [zbR (by rw [lenP, List.length_drop, hll]; omega), hll]
      (repeat (refine gG ?_; try intro _))
      refine g_yd rfl rfl (Ys.yd (zav hT (i + m + (n - j)) rfl rfl rfl rfl rfl (by omega))) ?_
      obtain ⟨o', ho', ho2⟩ := zkG (g := g) (l := i + m + (n - j)) (m := c) (s := 1)
      obtain ⟨p', hp1, hp2⟩ : ∃ p', shA (some ⟨g, 0, none⟩) (i + m + (n - j)) c 1 = some ⟨g, p', none⟩ ∧ p' + (n - (i + m + (n - j))) ≤ c ∧ (n - (i + m + (n - j)) ≠ 0 → p' = i + m + (n - j)) := by
       by_cases hc : c = i + m + (n - j)
       ·exact ⟨0, by unfold shA; rw [if_pos hc], by omega, fun h => absurd (by omega) h⟩
       ·exact ⟨i + m + (n - j), by rw [zbo hc, Nat.mul_one], by omega, fun _ => rfl⟩
      refine zaK 110 (.slice (some ⟨g, p', none⟩) (n - (i + m + (n - j))) (c - (i + m + (n - j)))) rfl (by rw [hp1]) ?_
      (repeat (refine gG ?_; try intro _))
      refine g_mv rfl (zgc rfl hT rfl rfl rfl rfl rfl zos uD (by rw [hl2]; omega) (fun vs hvs => ?_))
      (repeat (refine gG ?_; try intro _))
      refine zbg (sz := 1) (enc := PE) (n := i + m + (n - j)) (c := c) (base := base) (L.take i ++ V ++ L.drop j) (by decide) (by first | ((repeat (first | with_reducible exact Upd.here _ | with_reducible apply Upd.there)); done) | ((repeat (first | exact Upd.here _ | apply Upd.there)); done) | fail) (by rw [zbR (by rw [hvs, hl2]; omega), hl2, Nat.mul_one]) lR.symm hroom hcm hbg ?_ ?_
      ·have e7 : (lay (lay (flatF 1 PE L ++ rest) i (flatF 1 PE V)) (i + m) (flatF 1 PE (L.drop j))) = flatF 1 PE (L.take i ++ V ++ L.drop j) ++ ((flatF 1 PE (L.drop i) ++ rest).drop V.length).drop (L.length - j) := by rw [hm]; exact layA (by omega)
       have l7 : (flatF 1 PE (L.take i ++ V ++ L.drop j)).length = i + m + (n - j) := by rw [lenP, lR]
       rw [Nat.mul_one]
       by_cases hz : n - (i + m + (n - j)) = 0
       ·have : vs = [] := List.length_eq_zero_iff.1 (by rw [hvs, hz, Nat.zero_mul])
        subst this
        unfold lay
        rw [List.append_nil, List.length_nil, Nat.add_zero, List.take_append_drop]
        show (lay (lay (flatF 1 PE L ++ rest) i (flatF 1 PE V)) (i + m) (flatF 1 PE (L.drop j))).take _ = _
        rw [e7]
        exact List.take_left' l7
       ·rw [hp2.2 hz, e7, zbl _ _ _ l7.symm, List.append_assoc]
        exact List.take_left' l7
      ·refine zad hT rfl rfl (.tmp rfl .nil) (fun w' hk => ?_)
       obtain ⟨q1, q2⟩ := Kn.outG' (L := L.take i ++ V ++ L.drop j) (base := base) (e := 53) (sz := 1) (enc := PE) (v := .slice (some ⟨g, 0, none⟩) n c) hk mE
       exact ⟨_, rfl, q1, q2⟩
    ·(repeat' (first | (refine gH ?_; try intro _) | (refine gS ?_ ?_ <;> intro _) | fail))
     refine g_yd rfl rfl (Ys.yd (zav hT (i + m) rfl rfl rfl rfl (by push_cast; rfl) (by omega))) ?_
     refine zaK 117 (.slice (some ⟨g, i + m, none⟩) (i + m + (n - j) - (i + m)) (c - (i + m))) rfl (by rw [zbo (by omega), Nat.mul_one]) ?_
     (repeat (refine gG ?_; try intro _))
     refine zbD (α := Nat) (sz := 1) (enc := PE) (L := L) (by decide) uD (fun rest hl0 _ _ hcm hbg => ?_)
     refine g_mv rfl (zhf (tS := 107) (tR := 4) (sz := 1) rfl rfl rfl rfl rfl Tryz.func95 kR kR kR kR Tryz.underlying107 kR mE mE (by rw [lenP]; omega) ?_)
     have hsrc := srcJ (L := L) (rest := rest) (j := j) (by omega)
     (repeat' (first | (refine gH ?_; try intro _) | (refine gS ?_ ?_ <;> intro _) | fail))
     refine zas [1] (Cut _ (fun _ : Unit => [(1, .int .i64 i), (3, .slice (some ⟨g0, 0, none⟩) m mc), (12, .slice (some ⟨g, 0, none⟩) (i + m + (n - j)) c)]) (fun _ => [blk g (lay (flatF 1 PE L ++ rest) (i + m) (flatF 1 PE (L.drop j))) 53]) (fun _ => [blk g0 (flatF 1 PE V) 53])) rfl rfl kR ?_ (zaD fun _ => ?_)
     ·skip
      refine gY hT 0 ?_
      refine gY hT 1 ?_
      refine gY hT 2 ?_
      refine gY hT 3 ?_
      refine gY hT 4 ?_
      refine zaz 5 rfl dK rfl rfl (zav hT (i + m) rfl rfl rfl rfl (by push_cast; rfl) (by omega)) sF ?_
      try (refine zam 126 (.slice (some ⟨g, i + m, none⟩) (i + m + (n - j) - (i + m)) (c - (i + m))) rfl (by rw [zbo (by omega), Nat.mul_one]) ?_)
      refine gY hT 6 ?_
      refine gY hT 7 ?_
      refine zaz 8 rfl dK rfl rfl (zav hT j rfl rfl rfl rfl rfl (by omega)) sF ?_
      try (refine zam 129 (.slice (some ⟨g, j, none⟩) (n - j) (c - j)) rfl (by rw [zbo (by omega), Nat.mul_one]) ?_)
      refine gP 9 ?_
      refine zcd rfl hT (flatF 1 PE (L.drop j)) rfl rfl rfl rfl rfl (by first | ((repeat (first | with_reducible exact Upd.here _ | with_reducible apply Upd.there)); done) | ((repeat (first | exact Upd.here _ | apply Upd.there)); done) | fail) (zcU (m := L.length - j) mE _ hsrc) (by rw [lenP, List.length_drop, Nat.mul_one]; show _ = min (n - j) (i + m + (n - j) - (i + m)); omega) (by rw [lenP, List.length_drop, hl0]; omega) (zbd 1 PE oneP _) ?_
      refine ⟨sF, ?_⟩
      refine zak dK ?_
      exact ⟨(), fS, sA, sS⟩
     ·have hl2 : (lay (flatF 1 PE L ++ rest) (i + m) (flatF 1 PE (L.drop j))).length = c := by rw [zbR (by rw [lenP, List.length_drop, hl0]; omega), hl0, Nat.mul_one]
      (repeat (refine gG ?_; try intro _))
      refine g_yd rfl rfl (Ys.yd (zav hT i rfl rfl rfl rfl rfl (by omega))) ?_
      refine zaK 133 (.slice (some ⟨g, i, none⟩) (i + m + (n - j) - i) (c - i)) rfl (by rw [zbo (by omega), Nat.mul_one]) ?_
      (repeat (refine gG ?_; try intro _))
      refine g_mv rfl (zcd rfl hT (flatF 1 PE V) rfl rfl rfl rfl rfl (by first | ((repeat (first | with_reducible exact Upd.here _ | with_reducible apply Upd.there)); done) | ((repeat (first | exact Upd.here _ | apply Upd.there)); done) | fail) (zcf (m := m) mE _ hsV) (by rw [lenP, Nat.mul_one]; show _ = min m (i + m + (n - j) - i); omega) (by rw [lenP, hl2]; omega) (zbd 1 PE oneP _) ?_)
      (repeat (refine gG ?_; try intro _))
      obtain ⟨r, hr⟩ := layB (L := L) (V := V) (rest := rest) (i := i) (j := j) (by omega) (by
       rw [List.length_append, lenP, List.length_drop]
       rw [List.length_append, lenP] at hl0
       omega)
      rw [← hm] at hr
      refine zbg (sz := 1) (enc := PE) (n := i + m + (n - j)) (c := c) (base := base) (L.take i ++ V ++ L.drop j) (by decide) (by first | ((repeat (first | with_reducible exact Upd.here _ | with_reducible apply Upd.there)); done) | ((repeat (first | exact Upd.here _ | apply Upd.there)); done) | fail) (by rw [zbR (by rw [lenP, hl2]; omega), hl2, Nat.mul_one]) lR.symm hroom hcm hbg (by rw [hr, Nat.mul_one]; exact List.take_left' (by rw [lenP, lR])) ?_
      refine zad hT rfl rfl (.tmp rfl .nil) (fun w' hk => ?_)
      obtain ⟨q1, q2⟩ := Kn.outG' (L := L.take i ++ V ++ L.drop j) (base := base) (e := 53) (sz := 1) (enc := PE) (v := .slice (some ⟨g, 0, none⟩) n c) hk mE
      exact ⟨_, rfl, q1, q2⟩
   ·(repeat (refine gG ?_; try intro _))
    refine g_yd rfl rfl (Ys.yd (ziv hT rfl rfl rfl rfl rfl)) ?_
    (repeat' (first | (refine gH ?_; try intro _) | (refine gS ?_ ?_ <;> intro _) | fail))
    refine g_yd rfl rfl (Ys.yd (zaU hT i rfl rfl rfl rfl rfl (by omega))) ?_
    refine zaK 63 (.slice (some ⟨g, 0, none⟩) i c) rfl (by rw [zgQ]) ?_
    (repeat (refine gG ?_; try intro _))
    refine zbD (α := Nat) (sz := 1) (enc := PE) (L := L) (by decide) uD (fun rest hl0 _ _ hcm hbg => ?_)
    refine g_mv rfl (ziZ (kn := .i64) (bytes := 8) (j := m + (n - j)) rfl rfl rfl rfl rfl zij Tryz.underlying3 mE (by omega) (by omega) (by omega) (by rw [hl0]; omega) (by unfold maxLen; omega) (by omega) (fun g' cap zs hg' hcap hcm' hz => ?_))
    have lT : (flatF 1 PE (L.take i)).length = i := lenT (by omega)
    rw [show (flatF 1 PE L ++ rest).take (i * 1) = flatF 1 PE (L.take i) by rw [cutJ (L := L) (i := i) (by omega), List.append_assoc, Nat.mul_one]; exact List.take_left' lT]
    rw [Nat.mul_one] at hz
    have hsrc := srcJ (L := L) (rest := rest) (j := j) (by omega)
    refine zaK 67 (.slice (some ⟨g', 0, none⟩) (i + m + (n - j)) cap) rfl (by rw [Nat.add_assoc]) ?_
    (repeat (refine gG ?_; try intro _))
    refine g_yd rfl rfl (Ys.yd (zav hT i rfl rfl rfl rfl rfl (by omega))) ?_
    refine zaK 70 (.slice (some ⟨g', i, none⟩) (i + m + (n - j) - i) (cap - i)) rfl (by rw [zbo (by omega), Nat.mul_one]) ?_
    (repeat (refine gG ?_; try intro _))
    have lZ0 : (flatF 1 PE (L.take i) ++ zs).length = cap := by rw [List.length_append, lT, hz]; omega
    refine g_mv rfl (zcd rfl hT (flatF 1 PE V) rfl rfl rfl rfl rfl (by first | ((repeat (first | with_reducible exact Upd.here _ | with_reducible apply Upd.there)); done) | ((repeat (first | exact Upd.here _ | apply Upd.there)); done) | fail) (zcf (m := m) mE _ hsV) (by rw [lenP, Nat.mul_one]; show _ = min m (i + m + (n - j) - i); omega) (by rw [lenP, lZ0]; omega) (zbd 1 PE oneP _) ?_)
    rw [zbl _ _ _ lT.symm]
    have lZ : (flatF 1 PE (L.take i) ++ flatF 1 PE V ++ zs.drop (flatF 1 PE V).length).length = cap := by rw [List.length_append, List.length_append, List.length_drop, lT, lenP, hz]; omega
    (repeat (refine gG ?_; try intro _))
    refine zas [1, 2] (Cut _ (fun _ : Unit => [(11, .slice (some ⟨g', 0, none⟩) (i + m + (n - j)) cap)]) (fun _ => [blk g' (lay (flatF 1 PE (L.take i) ++ flatF 1 PE V ++ zs.drop (flatF 1 PE V).length) (i + m) (flatF 1 PE (L.drop j))) 53]) (fun _ => [])) rfl rfl kR ?_ (zaD fun _ => ?_)
    ·skip
     refine gY hT 0 ?_
     refine gY hT 1 ?_
     refine gY hT 2 ?_
     refine gY hT 3 ?_
     refine gY hT 4 ?_
     refine zaz 5 rfl dK rfl rfl (zav hT (i + m) rfl rfl rfl rfl (by push_cast; rfl) (by omega)) sF ?_
     try (refine zam 78 (.slice (some ⟨g', i + m, none⟩) (i + m + (n - j) - (i + m)) (cap - (i + m))) rfl (by rw [zbo (by omega), Nat.mul_one]) ?_)
     refine gY hT 6 ?_
     refine gY hT 7 ?_
     refine zaz 8 rfl dK rfl rfl (zav hT j rfl rfl rfl rfl rfl (by omega)) sF ?_
     try (refine zam 81 (.slice (some ⟨g, j, none⟩) (n - j) (c - j)) rfl (by rw [zbo (by omega), Nat.mul_one]) ?_)
     refine gP 9 ?_
     refine zcd rfl hT (flatF 1 PE (L.drop j)) rfl rfl rfl rfl rfl (by first | ((repeat (first | with_reducible exact Upd.here _ | with_reducible apply Upd.there)); done) | ((repeat (first | exact Upd.here _ | apply Upd.there)); done) | fail) (zcU (m := L.length - j) mE _ hsrc) (by rw [lenP, List.length_drop, Nat.mul_one]; show _ = min (n - j) (i + m + (n - j) - (i + m)); omega) (by rw [lenP, List.length_drop, lZ]; omega) (zbd 1 PE oneP _) ?_
     refine ⟨sF, ?_⟩
     refine zak dK ?_
     exact ⟨(), fS, sA, sS⟩
    ·(repeat (refine gG ?_; try intro _))
     rw [zbl _ _ _ (by rw [List.length_append, lT, lenP]; omega)]
     refine zbg (sz := 1) (enc := PE) (n := i + m + (n - j)) (c := cap) (base := base) (L.take i ++ V ++ L.drop j) (by decide) (by first | ((repeat (first | with_reducible exact Upd.here _ | with_reducible apply Upd.there)); done) | ((repeat (first | exact Upd.here _ | apply Upd.there)); done) | fail) ?_ lR.symm (by omega) hcm' (Nat.le_trans hb hg') ?_ ?_
     ·rw [List.length_append, List.length_append, List.length_append, List.length_drop, List.length_drop, lT, lenP, lenP, hz, List.length_drop]; omega
     ·rw [Nat.mul_one, ← zao, ← zao]
      exact List.take_left' (by rw [lenP, lR])
     ·refine zad hT rfl rfl (.tmp rfl .nil) (fun w' hk => ?_)
      obtain ⟨q1, q2⟩ := Kn.outG' (L := L.take i ++ V ++ L.drop j) (base := base) (e := 53) (sz := 1) (enc := PE) (v := .slice (some ⟨g, 0, none⟩) n c) hk mE
      exact ⟨_, rfl, q1, q2⟩
end Go.Proofs.YtaghmffgoomebaaGreat.Nd
