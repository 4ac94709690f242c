/- check.Tree: what is wrong with a tree, the first of these in the order of its nodes; else its entries. -/
import Derived.Test.YtaghmffgoomebaaGreatWq
set_option linter.unusedVariables false
set_option linter.unusedSimpArgs false
namespace Go.Proofs.YtaghmffgoomebaaGreat.Ck
open Go.RowKit Mem Nd Gx Sk Tw Wk
open Tr hiding T row
set_option maxRecDepth 100000
set_option maxHeartbeats 1000000
structure LevD where
 g : Nat
 dp : Int
 rt : Bool
instance : Inhabited LevD := ⟨⟨0, 0, false⟩⟩
def LE : LevD → Nat → Value
 | x, 0 => .pointer (some ⟨x.g, 0, none⟩)
 | x, 1 => .int .i64 x.dp
 | x, _ + 2 => .bool x.rt
theorem elt_L : Elt Tryz.prog 128 127 3 24 := Elt.mk' (z := .agg #[.pointer none, .int .i64 0, .bool false]) Tryz.underlying128 kR rfl (by decide)
theorem oneL : ∀ (x : LevD) (j : Nat), (LE x j).oneCell' = true := by intro x j; rcases j with _ | _ | j <;> rfl
def WOk : (h : Nat) → Tr.T h → Prop
 | 0, t => IsLeafW t.2 t.1
 | h + 1, t => t.1.Ok ∧ t.1.leaf = false ∧ t.1.Cs = (t.2.map (nd h)).map NodeD.g ∧ t.1.Ks.length = t.2.length ∧ ∀ k ∈ t.2, WOk h k
theorem zot : ∀ {h : Nat} {t : Tr.T h}, WOk h t → (nd h t).Ok
 | 0, _, w => w.ok
 | _ + 1, _, w => w.1
theorem zmP : ∀ {h : Nat} {t : Tr.T h}, WOk h t → (nd h t).leaf = decide (h = 0)
 | 0, _, w => w.leaf
 | _ + 1, _, w => w.2.1
theorem wok_Cs {a : AT} (w : WOk a.h a.t) : (nd a.h a.t).Cs = (a.kids.map fun k => nd k.h k.t).map NodeD.g := by
 obtain ⟨h, t⟩ := a
 cases h with
 | zero => exact w.Cs
 | succ h =>
   show t.1.Cs = ((t.2.map fun k => (⟨h, k⟩ : AT)).map fun k => nd k.h k.t).map NodeD.g
   rw [w.2.2.1, List.map_map, List.map_map, List.map_map]
   rfl
theorem zix {a : AT} (w : WOk a.h a.t) : ∀ k ∈ a.kids, WOk k.h k.t := by
 obtain ⟨h, t⟩ := a
 cases h with
 | zero => intro k hk; cases hk
 | succ h =>
   intro k hk
   obtain ⟨c, hc, rfl⟩ := List.mem_map.1 (show k ∈ t.2.map (fun k => (⟨h, k⟩ : AT)) from hk)
   exact w.2.2.2.2 c hc
theorem wok_Kl {a : AT} (w : WOk a.h a.t) : a.kids.length ≤ (nd a.h a.t).Ks.length := by
 obtain ⟨h, t⟩ := a
 cases h with
 | zero => exact Nat.zero_le _
 | succ h =>
   show (t.2.map fun k => (⟨h, k⟩ : AT)).length ≤ t.1.Ks.length
   rw [w.2.2.2.1, List.length_map]
   exact Nat.le_refl _
theorem zoG : ∀ (h : Nat) (t : Tr.T h), Tr.Ok h t → WOk h t
 | 0, _, ok => ok.1
 | h + 1, t, ok => ⟨ok.1.ok, ok.1.leaf, ok.1.Cs, by rw [ok.1.Ks, List.length_map, List.length_map], fun k hk => zoG h k (ok.2.2 k hk)⟩
theorem zp6 {a : AT} {Q : List AT} {i : Nat} (h : BfsR a Q i) (ok : WOk a.h a.t) : ∀ q ∈ Q, WOk q.h q.t := by
 induction h with
 | start => intro q hq; obtain rfl := m1 hq; exact ok
 | step h hb ih =>
   intro q hq
   rcases List.mem_append.1 hq with hq | hq
   ·exact ih q hq
   ·exact zix (ih _ (List.mem_of_getElem? hb)) q hq
theorem bfs_h {a : AT} {Q : List AT} {i : Nat} (h : BfsR a Q i) : ∀ q ∈ Q, q.h ≤ a.h := by
 induction h with
 | start => intro q hq; obtain rfl := m1 hq; exact Nat.le_refl _
 | step h hb ih =>
   intro q hq
   rcases List.mem_append.1 hq with hq | hq
   ·exact ih q hq
   ·have := AT.zhj q hq
    have := ih _ (List.mem_of_getElem? hb)
    omega
def goodN (b : AT) (rt : Bool) : Prop := AscK (nd b.h b.t).Ks ∧ FillP (nd b.h b.t).leaf rt (nd b.h b.t).K.n (nd b.h b.t).V.n (nd b.h b.t).C.n ∧ FirstP (nd b.h b.t).Ks (b.kids.map fun k => nd k.h k.t)
noncomputable def codeN (b : AT) (rt : Bool) : Int := if tB (AscK (nd b.h b.t).Ks) = true then (if tB (FillP (nd b.h b.t).leaf rt (nd b.h b.t).K.n (nd b.h b.t).V.n (nd b.h b.t).C.n) = true then 4 else 2) else 1
def AllGood (a : AT) : Prop := ∀ P i b, BfsR a P i → P[i]? = some b → goodN b (decide (i = 0))
def TreeR (a : AT) (n : Int) (Z : List EntD) (r : Int) : Prop :=
 (∃ P i b, BfsR a P i ∧ P[i]? = some b ∧ (∀ j, j < i → ∀ P' b', BfsR a P' j → P'[j]? = some b' → goodN b' (decide (j = 0))) ∧ ¬ goodN b (decide (i = 0)) ∧ r = codeN b (decide (i = 0))) ∨ (AllGood a ∧ r = entR Z n)
theorem zko {a : AT} {P : List AT} (hP : BfsR a P P.length) (h : ∀ j, j < P.length → ∀ P' b', BfsR a P' j → P'[j]? = some b' → goodN b' (decide (j = 0))) : AllGood a := by
 intro P' i b h1 h2
 by_cases hi : i < P.length
 ·exact h i hi P' b h1 h2
 ·exfalso
  by_cases e : i = P.length
  ·subst e
   obtain rfl := zgF hP h1
   have := (List.getElem?_eq_some_iff.1 h2).1
   omega
  ·obtain ⟨P2, b2, S, q1, q2, _⟩ := bfs_at h1 P.length (by omega)
   obtain rfl := zgF hP q1
   have := (List.getElem?_eq_some_iff.1 q2).1
   omega
def lev (H : Nat) (b : AT) (rt : Bool) : LevD := ⟨(nd b.h b.t).g, (H : Int) + 1 - b.h, rt⟩
def mkQ (H : Nat) : List AT → List LevD
 | [] => []
 | b :: r => lev H b true :: r.map fun c => lev H c false
theorem zps (H : Nat) (P : List AT) : (mkQ H P).length = P.length := by
 cases P with
 | nil => rfl
 | cons b r => show (r.map _).length + 1 = _; rw [List.length_map]; rfl
theorem mkQ_at {H : Nat} {P : List AT} {i : Nat} {b : AT} (h : P[i]? = some b) : (mkQ H P)[i]? = some (lev H b (decide (i = 0))) := by
 cases P with
 | nil => cases h
 | cons c r =>
   cases i with
   | zero => obtain rfl := Option.some.inj h; rfl
   | succ i =>
     show (r.map fun c => lev H c false)[i]? = _
     have h' : r[i]? = some b := h
     rw [List.getElem?_map, h']
     rfl
theorem zhZ {H : Nat} {P K : List AT} (h : 0 < P.length) : mkQ H (P ++ K) = mkQ H P ++ K.map fun c => lev H c false := by
 cases P with
 | nil => simp at h
 | cons b r => show _ :: (r ++ K).map _ = _; rw [List.map_append]; rfl
theorem zd4 {a : AT} {Q : List AT} {i : Nat} {b : AT} (h : BfsR a Q i) (hb : Q[i]? = some b) : Der [stF (some a)] (allF (b.kids.map fun k => nd k.h k.t) nodeF) := Der.all fun d hd => by
 obtain ⟨k, hk, rfl⟩ := List.mem_map.1 hd
 have h1 := (BfsR.step h hb).der k (List.mem_append_right _ hk)
 exact Der.trans ⟨fun w hw => zfM (hw _ (.head _)), fun b hb => ⟨treeF k.h k.t, .head _, zfN hb⟩⟩ fun ψ hψ => by
  obtain rfl := m1 hψ
  exact h1
theorem zmu (a : AT) (tg : Nat) (n : Int) (f0 t0 : KeyD) (ys : List (Tr.T 0)) (Z : List EntD) (w : World) (hf0 : f0 = ⟨0, 0, 0⟩) (ht0 : t0 = maxK) (hW : WOk a.h a.t) (hh : a.h ≤ 12) (h9 : a.cnt ≤ 10000) (hsz : ∀ P i, BfsR a P i → ∀ q ∈ P, (nd q.h q.t).Ks.length ≤ 1000 ∧ (nd q.h q.t).Vs.length ≤ 1000) (hend : AllGood a → LvO (some a) f0 ys ∧ UpTo t0 (rows ys) ∧ (rows ys).length ≤ 10000 ∧ win f0 t0 (rows ys) = Z) (hB : Rd1 w (blk tg [.pointer (some ⟨(nd a.h a.t).g, 0, none⟩), .int .i64 n] 55)) (hF : Rd1 w (stF (some a))) :
 Calls Tryz.prog 32 [.pointer (some ⟨tg, 0, none⟩)].toArray w (Ret (TreeR a n Z) (fun r => .int .i64 r) (fun _ => []) w) := by
 refine zab T [] [] [blk tg [.pointer (some ⟨(nd a.h a.t).g, 0, none⟩), .int .i64 n] 55, stF (some a)] Tryz.func32 rfl Tryz.ntmps32 rfl (Rds.cons hB (.cons hF .nil)).kn ?_
 (repeat' (first | (refine gH ?_; try intro _) | (refine g_mv rfl ?_; refine cb (fun w hk => zdr tg (.pointer (some ⟨(nd a.h a.t).g, 0, none⟩)) n w (hk.rR mE)) ?_) | (refine gS ?_ ?_ <;> intro _) | fail))
 rename_i g1
 refine zbg (sz := 3) (enc := LE) (n := 1) (c := 1) (base := 0) [lev a.h a true] (by decide) (by first | ((repeat (first | with_reducible exact Upd.here _ | with_reducible apply Upd.there)); done) | ((repeat (first | exact Upd.here _ | apply Upd.there)); done) | fail) rfl rfl (Nat.le_refl _) (by unfold maxLen; omega) (Nat.zero_le _) (by show [Value.pointer (some ⟨(nd a.h a.t).g, 0, none⟩), .int .i64 1, .bool true] = [Value.pointer (some ⟨(nd a.h a.t).g, 0, none⟩), .int .i64 ((a.h : Int) + 1 - a.h), .bool true]; rw [show (a.h : Int) + 1 - a.h = 1 by omega]) ?_
 refine gL4 (fun (v : Value) (P : (List AT)) (i : Nat) (dv : Int) => (BfsR a P i ∧ i ≤ P.length ∧ (∀ j, j < i → ∀ P' b', BfsR a P' j → P'[j]? = some b' → goodN b' (decide (j = 0))) ∧ (dv = 0 ∨ dv = (a.h : Int) + 1))) (fun v P i dv => [(0, .pointer (some ⟨tg, 0, none⟩)), (3, v), (4, .int .i64 dv), (5, .int .i64 i)]) (fun v P i dv => [own 0 127 3 v LE (mkQ a.h P)]) (fun v P i dv => [blk tg [.pointer (some ⟨(nd a.h a.t).g, 0, none⟩), .int .i64 n] 55, stF (some a)]) (fun v P i dv => a.cnt - i) (.slice (some ⟨g1, 0, none⟩) 1 1) [a] 0 0 ⟨.start, Nat.zero_le _, fun j hj => absurd hj (by omega), .inl rfl⟩ ?_
 rintro v P i dv hI
 obtain ⟨hP, hiP, hgood, hdv⟩ := hI
 have hcount := hP.count
 have hpos := hP.pos
 have hml := zps a.h P
 refine zgo v mE (by omega) (fun b1 c1 hv h1 h2 => ?_)
 subst hv
 by_cases hlt : i < P.length
 ·obtain ⟨b, hb⟩ : ∃ b, P[i]? = some b := ⟨P[i], List.getElem?_eq_getElem hlt⟩
  have hbm := List.mem_of_getElem? hb
  have hbW := zp6 hP hW b hbm
  have hbh := bfs_h hP b hbm
  have hno := zot hbW
  obtain ⟨hs1, hs2⟩ := hsz P i hP b hbm
  have hder := hP.der b hbm
  have hders := zd4 hP hb
  have hnext := (BfsR.step hP hb).count
  have hPs := BfsR.step hP hb
  have hgs : goodN b (decide (i = 0)) → ∀ j, j < i + 1 → ∀ P' b', BfsR a P' j → P'[j]? = some b' → goodN b' (decide (j = 0)) := fun hg j hj P' b' q1 q2 => by
   by_cases e : j = i
   ·subst e
    obtain rfl := zgF hP q1
    rw [hb] at q2
    obtain rfl := Option.some.inj q2
    exact hg
   ·exact hgood j (by omega) P' b' q1 q2
  obtain ⟨K, hK⟩ : ∃ K, K = b.kids := ⟨_, rfl⟩
  rw [← hK] at hders hnext hPs
  rw [List.length_append] at hnext
  obtain ⟨ds, hds⟩ : ∃ ds, ds = K.map fun k => nd k.h k.t := ⟨_, rfl⟩
  have hdl : ds.length = K.length := by rw [hds, List.length_map]
  rw [← hds] at hders
  have hCs : (nd b.h b.t).Cs = ds.map NodeD.g := by rw [hds, hK]; exact wok_Cs hbW
  have hCn : (nd b.h b.t).C.n = ds.length := by rw [hno.C.n, hCs, List.length_map]
  have hCv : (nd b.h b.t).C.v = .slice (nd b.h b.t).C.A ds.length (nd b.h b.t).C.c := by rw [← hCn]; rfl
  have hKl : ds.length ≤ (nd b.h b.t).Ks.length := by rw [hdl, hK]; exact wok_Kl hbW
  have hdo : ∀ d ∈ ds, d.Ok := fun d hd => by
   rw [hds] at hd
   obtain ⟨k, hk, rfl⟩ := List.mem_map.1 hd
   exact zot (zix hbW k (by rw [← hK]; exact hk))
  have hKn := hno.K.n
  have hVn := hno.V.n
  refine zaY [stF (some a)] hder sS ?_
  refine zeV (h := b.h) (t := b.t) mE ?_
  refine zeX (d := (nd b.h b.t)) mE ?_
  refine zpJ (d := (nd b.h b.t)) mE ?_
  refine zlS (d := (nd b.h b.t)) mE ?_
  refine zaY [stF (some a)] hders sS ?_
  (repeat' (first | (refine gH ?_; try intro _) | (refine gS ?_ ?_ <;> intro _) | fail))
  refine g_yd rfl rfl ((zaG (S := [own 0 127 3 (.slice (some ⟨b1, 0, none⟩) (mkQ a.h P).length c1) LE (mkQ a.h P)]) (o0 := 0) (sz := 3) (enc := LE) (L := mkQ a.h P) hT i (lev a.h b (decide (i = 0))) 0 rfl rfl rfl (by omega) (mkQ_at hb) (zb6 mE) rfl rfl).ydS sF) ?_
  refine zaK 28 (.agg #[.pointer (some ⟨(nd b.h b.t).g, 0, none⟩), .int .i64 ((a.h : Int) + 1 - b.h), .bool (decide (i = 0))]) rfl rfl ?_
  (repeat (refine gG ?_; try intro _))
  rename_i g6
  refine cB (fun w hk => zkl (nd b.h b.t).g (nd b.h b.t).leaf (nd b.h b.t).K.A (nd b.h b.t).K.n (nd b.h b.t).K.c (nd b.h b.t).V (nd b.h b.t).C (nd b.h b.t).a (nd b.h b.t).Ks w hKn (by omega) (hk.rR (φ := row (nd b.h b.t).g 0 [.bool (nd b.h b.t).leaf, (nd b.h b.t).K.v, (nd b.h b.t).V.v, (nd b.h b.t).C.v, .int .u32 (nd b.h b.t).a]) mE) (hk.rR (φ := sl (nd b.h b.t).K.A 3 KE (nd b.h b.t).Ks) mE)) ?_
  by_cases hA : AscK (nd b.h b.t).Ks
  ·rw [zan hA]
   (repeat (refine gG ?_; try intro _))
   refine cB (fun w hk => zmE (nd b.h b.t).g ((a.h : Int) + 1 - b.h) (nd b.h b.t).leaf (decide (i = 0)) (nd b.h b.t).K.A (nd b.h b.t).V.A (nd b.h b.t).C.A (nd b.h b.t).K.n (nd b.h b.t).K.c (nd b.h b.t).V.n (nd b.h b.t).V.c (nd b.h b.t).C.n (nd b.h b.t).C.c (nd b.h b.t).a w (by omega) (by omega) (by omega) (zbQ (hk.rR (φ := nodeF (nd b.h b.t)) mE)).1) ?_
   by_cases hFl : FillP (nd b.h b.t).leaf (decide (i = 0)) (nd b.h b.t).K.n (nd b.h b.t).V.n (nd b.h b.t).C.n
   ·rw [zan hFl]
    (repeat (refine gG ?_; try intro _))
    refine cB (fun w hk => zkm (nd b.h b.t).g (nd b.h b.t).leaf (nd b.h b.t).K.A (nd b.h b.t).C.A (nd b.h b.t).K.n (nd b.h b.t).K.c (nd b.h b.t).C.c (nd b.h b.t).V (nd b.h b.t).a (nd b.h b.t).Ks ds w (by omega) hKl hdo (by have := hk.rR (φ := row (nd b.h b.t).g 0 [.bool (nd b.h b.t).leaf, (nd b.h b.t).K.v, (nd b.h b.t).V.v, (nd b.h b.t).C.v, .int .u32 (nd b.h b.t).a]) mE; rw [hCv] at this; exact this) (hk.rR (φ := sl (nd b.h b.t).K.A 3 KE (nd b.h b.t).Ks) mE) (by have := hk.rR (φ := sl (nd b.h b.t).C.A 1 PE (nd b.h b.t).Cs) mE; rw [hCs] at this; exact this) (hk.rR (φ := allF ds nodeF) mE) hKn) ?_
    by_cases hFs : FirstP (nd b.h b.t).Ks ds
    ·rw [zan hFs]
     have hgood' := hgs ⟨hA, hFl, by rw [← hK, ← hds]; exact hFs⟩
     rw [hCv, zmP hbW]
     by_cases hz : b.h = 0
     ·rw [decide_eq_true hz]
      have hdw : (a.h : Int) + 1 - b.h = 0 ∨ (a.h : Int) + 1 - b.h = (a.h : Int) + 1 := by omega
      obtain ⟨dw, hdwe⟩ : ∃ dw, dw = (a.h : Int) + 1 - b.h := ⟨_, rfl⟩
      rw [← hdwe] at hdw
      rcases hdv with rfl | rfl
      ·(repeat' (first | (refine gH ?_; try intro _) | (refine gS ?_ ?_ <;> intro _) | fail))
       refine zbs 4 (.int .i64 dw) rfl (by rw [hdwe]) ?_
       rw [show own 0 127 3 (.slice (some ⟨b1, 0, none⟩) (mkQ a.h P).length c1) LE (mkQ a.h P) = own 0 127 3 (.slice (some ⟨b1, 0, none⟩) (mkQ a.h P).length c1) LE (mkQ a.h P ++ (K.take 0).map fun c => lev a.h c false) by rw [List.take_zero, List.map_nil, List.append_nil]]
       refine gL2 (fun (j : Nat) (v2 : Value) => (j ≤ K.length)) (fun j v2 => [(0, .pointer (some ⟨tg, 0, none⟩)), (3, v2), (4, .int .i64 dw), (5, .int .i64 i), (6, .pointer (some ⟨g6, 0, none⟩)), (75, .slice (nd b.h b.t).C.A ds.length (nd b.h b.t).C.c), (76, .int .i64 ds.length), (77, .int .i64 j)]) (fun j v2 => [blk g6 [.pointer (some ⟨(nd b.h b.t).g, 0, none⟩), .int .i64 ((a.h : Int) + 1 - b.h), .bool (decide (i = 0))] 127, own 0 127 3 v2 LE (mkQ a.h P ++ (K.take j).map fun c => lev a.h c false)]) (fun j v2 => [sl (nd b.h b.t).C.A 1 PE (nd b.h b.t).Cs, blk tg [.pointer (some ⟨(nd a.h a.t).g, 0, none⟩), .int .i64 n] 55, stF (some a)]) (fun j v2 => K.length - j) 0 (.slice (some ⟨b1, 0, none⟩) (mkQ a.h P).length c1) (Nat.zero_le _) ?_
       rintro j v2 hI
       by_cases hj : j < K.length
       ·obtain ⟨kd, hkd⟩ : ∃ kd, K[j]? = some kd := ⟨K[j], List.getElem?_eq_getElem hj⟩
        have hkm := List.mem_of_getElem? hkd
        have hkh : kd.h + 1 = b.h := AT.zhj kd (by rw [← hK]; exact hkm)
        exfalso
        omega
       ·have hjK : j = K.length := by
         have : j ≤ K.length := hI
         omega
        (repeat' (first | (refine gH ?_; try intro _) | (refine gS ?_ ?_ <;> intro _) | fail))
        rw [hjK, List.take_length, ← zhZ hpos]
        refine zag rfl (v2, P ++ K, i + 1, dw) ⟨hPs, by rw [List.length_append]; omega, hgood', hdw⟩ (by dsimp only; omega) fS sA sS
      ·(repeat' (first | (refine gH ?_; try intro _) | (refine gS ?_ ?_ <;> intro _) | fail))
       refine zbs 4 (.int .i64 dw) rfl (by rw [hdwe]) ?_
       rw [show own 0 127 3 (.slice (some ⟨b1, 0, none⟩) (mkQ a.h P).length c1) LE (mkQ a.h P) = own 0 127 3 (.slice (some ⟨b1, 0, none⟩) (mkQ a.h P).length c1) LE (mkQ a.h P ++ (K.take 0).map fun c => lev a.h c false) by rw [List.take_zero, List.map_nil, List.append_nil]]
       refine gL2 (fun (j : Nat) (v2 : Value) => (j ≤ K.length)) (fun j v2 => [(0, .pointer (some ⟨tg, 0, none⟩)), (3, v2), (4, .int .i64 dw), (5, .int .i64 i), (6, .pointer (some ⟨g6, 0, none⟩)), (75, .slice (nd b.h b.t).C.A ds.length (nd b.h b.t).C.c), (76, .int .i64 ds.length), (77, .int .i64 j)]) (fun j v2 => [blk g6 [.pointer (some ⟨(nd b.h b.t).g, 0, none⟩), .int .i64 ((a.h : Int) + 1 - b.h), .bool (decide (i = 0))] 127, own 0 127 3 v2 LE (mkQ a.h P ++ (K.take j).map fun c => lev a.h c false)]) (fun j v2 => [sl (nd b.h b.t).C.A 1 PE (nd b.h b.t).Cs, blk tg [.pointer (some ⟨(nd a.h a.t).g, 0, none⟩), .int .i64 n] 55, stF (some a)]) (fun j v2 => K.length - j) 0 (.slice (some ⟨b1, 0, none⟩) (mkQ a.h P).length c1) (Nat.zero_le _) ?_
       rintro j v2 hI
       by_cases hj : j < K.length
       ·obtain ⟨kd, hkd⟩ : ∃ kd, K[j]? = some kd := ⟨K[j], List.getElem?_eq_getElem hj⟩
        have hkm := List.mem_of_getElem? hkd
        have hkh : kd.h + 1 = b.h := AT.zhj kd (by rw [← hK]; exact hkm)
        exfalso
        omega
       ·have hjK : j = K.length := by
         have : j ≤ K.length := hI
         omega
        (repeat' (first | (refine gH ?_; try intro _) | (refine gS ?_ ?_ <;> intro _) | fail))
        rw [hjK, List.take_length, ← zhZ hpos]
        refine zag rfl (v2, P ++ K, i + 1, dw) ⟨hPs, by rw [List.length_append]; omega, hgood', hdw⟩ (by dsimp only; omega) fS sA sS
     ·rw [decide_eq_false hz]
      obtain ⟨dw, hdwe⟩ : ∃ dw, dw = dv := ⟨_, rfl⟩
      rw [← hdwe] at hdv ⊢
      have hdw := hdv
      (repeat' (first | (refine gH ?_; try intro _) | (refine gS ?_ ?_ <;> intro _) | fail))
      rw [show own 0 127 3 (.slice (some ⟨b1, 0, none⟩) (mkQ a.h P).length c1) LE (mkQ a.h P) = own 0 127 3 (.slice (some ⟨b1, 0, none⟩) (mkQ a.h P).length c1) LE (mkQ a.h P ++ (K.take 0).map fun c => lev a.h c false) by rw [List.take_zero, List.map_nil, List.append_nil]]
      refine gL2 (fun (j : Nat) (v2 : Value) => (j ≤ K.length)) (fun j v2 => [(0, .pointer (some ⟨tg, 0, none⟩)), (3, v2), (4, .int .i64 dw), (5, .int .i64 i), (6, .pointer (some ⟨g6, 0, none⟩)), (75, .slice (nd b.h b.t).C.A ds.length (nd b.h b.t).C.c), (76, .int .i64 ds.length), (77, .int .i64 j)]) (fun j v2 => [blk g6 [.pointer (some ⟨(nd b.h b.t).g, 0, none⟩), .int .i64 ((a.h : Int) + 1 - b.h), .bool (decide (i = 0))] 127, own 0 127 3 v2 LE (mkQ a.h P ++ (K.take j).map fun c => lev a.h c false)]) (fun j v2 => [sl (nd b.h b.t).C.A 1 PE (nd b.h b.t).Cs, blk tg [.pointer (some ⟨(nd a.h a.t).g, 0, none⟩), .int .i64 n] 55, stF (some a)]) (fun j v2 => K.length - j) 0 (.slice (some ⟨b1, 0, none⟩) (mkQ a.h P).length c1) (Nat.zero_le _) ?_
      rintro j v2 hI
      by_cases hj : j < K.length
      ·obtain ⟨kd, hkd⟩ : ∃ kd, K[j]? = some kd := ⟨K[j], List.getElem?_eq_getElem hj⟩
       have hkm := List.mem_of_getElem? hkd
       have hkh : kd.h + 1 = b.h := AT.zhj kd (by rw [← hK]; exact hkm)
       refine zar (enc := PE) (L := (nd b.h b.t).Cs) j mE (by rw [hCs, List.length_map]; omega) (by decide) (fun b2 o2 y2 eA hy2 => ?_)
       obtain rfl : (nd kd.h kd.t).g = y2 := by
        rw [hCs, hds, List.getElem?_map, List.getElem?_map, hkd] at hy2
        exact Option.some.inj hy2
       rw [eA]
       have hlm : ((K.take j).map fun c => lev a.h c false).length ≤ K.length := by rw [List.length_map]; exact List.length_take_le' ..
       (repeat' (first | (refine gH ?_; try intro _) | (refine gS ?_ ?_ <;> intro _) | fail))
       refine g_mv rfl (zac (L := mkQ a.h P ++ (K.take j).map fun c => lev a.h c false) rfl [lev a.h kd false] rfl rfl rfl rfl elt_L uD (zah mE (by show [Value.pointer (some ⟨(nd kd.h kd.t).g, 0, none⟩), .int .i64 ((a.h : Int) + 1 - b.h + 1), .bool false] = [Value.pointer (some ⟨(nd kd.h kd.t).g, 0, none⟩), .int .i64 ((a.h : Int) + 1 - kd.h), .bool false]; rw [show (a.h : Int) + 1 - b.h + 1 = (a.h : Int) + 1 - kd.h by omega])) rfl oneL (by rw [List.length_append]; simp only [maxLen, List.length_cons, List.length_nil]; omega) (by rw [List.length_append]; simp only [List.length_cons, List.length_nil]; omega) (Nat.zero_le _) (fun v3 => ?_))
       rw [show (mkQ a.h P ++ (K.take j).map fun c => lev a.h c false) ++ [lev a.h kd false] = mkQ a.h P ++ (K.take (j + 1)).map fun c => lev a.h c false by
        obtain ⟨z1, z2⟩ := List.getElem?_eq_some_iff.1 hkd
        rw [List.take_succ_eq_append_getElem z1, z2, List.map_append, List.append_assoc]
        rfl]
       (repeat (refine gG ?_; try intro _))
       refine zag rfl (j + 1, v3) hj (by dsimp only; omega) fS sA sS
      ·have hjK : j = K.length := by
        have : j ≤ K.length := hI
        omega
       (repeat' (first | (refine gH ?_; try intro _) | (refine gS ?_ ?_ <;> intro _) | fail))
       rw [hjK, List.take_length, ← zhZ hpos]
       refine zag rfl (v2, P ++ K, i + 1, dw) ⟨hPs, by rw [List.length_append]; omega, hgood', hdw⟩ (by dsimp only; omega) fS sA sS
    ·rw [zaj hFs]
     (repeat (refine gG ?_; try intro _))
     refine zad hT rfl rfl (.tmp rfl .nil) (fun w' hk => ?_)
     exact Ret.mk (codeN b (decide (i = 0))) (.inl ⟨P, i, b, hP, hb, hgood, fun h => hFs (by have := h.2.2; rw [← hK, ← hds] at this; exact this), rfl⟩) (by unfold codeN; rw [if_pos (zan hA), if_pos (zan hFl)]; rfl) hk sA
   ·rw [zaj hFl]
    (repeat (refine gG ?_; try intro _))
    refine zad hT rfl rfl (.tmp rfl .nil) (fun w' hk => ?_)
    exact Ret.mk (codeN b (decide (i = 0))) (.inl ⟨P, i, b, hP, hb, hgood, fun h => hFl h.2.1, rfl⟩) (by unfold codeN; rw [if_pos (zan hA), if_neg (by rw [zaj hFl]; decide)]; rfl) hk sA
  ·rw [zaj hA]
   (repeat (refine gG ?_; try intro _))
   refine zad hT rfl rfl (.tmp rfl .nil) (fun w' hk => ?_)
   exact Ret.mk (codeN b (decide (i = 0))) (.inl ⟨P, i, b, hP, hb, hgood, fun h => hA h.1, rfl⟩) (by unfold codeN; rw [if_neg (by rw [zaj hA]; decide)]; rfl) hk sA
 ·have hiP' : i = P.length := by omega
  subst hiP'
  have hall := zko hP hgood
  obtain ⟨e1, e2, e3, e4⟩ := hend hall
  (repeat' (first | (refine gH ?_; try intro _) | (refine g_mv rfl ?_; refine cb (fun w hk => zhB (some a) tg n f0 t0 ys Z w hf0 ht0 e1 e2 e3 e4 (hk.rR mE) (hk.rR mE)) ?_) | (refine gS ?_ ?_ <;> intro _) | fail))
  refine zad hT rfl rfl (.tmp rfl .nil) (fun w' hk => ?_)
  exact Ret.mk (entR Z n) (.inr ⟨hall, rfl⟩) rfl hk sA
end Go.Proofs.YtaghmffgoomebaaGreat.Ck
