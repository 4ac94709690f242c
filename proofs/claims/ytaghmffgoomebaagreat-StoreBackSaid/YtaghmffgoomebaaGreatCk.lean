/- walk.leaves, walk.Range: the entries from a key on, up to another one, as an iterator. walk.list: what is gone through, as a row. walk.All, Volume, Block, Count; the law's first: what they give of any tree. check.order, fill, first: what is wrong with a node. -/
import Derived.Test.YtaghmffgoomebaaGreatWl
import Derived.Test.YtaghmffgoomebaaGreatNdC
import Derived.Test.YtaghmffgoomebaaGreatNdS
import Derived.Test.YtaghmffgoomebaaGreatGxY
set_option linter.unusedVariables false
set_option linter.unusedSimpArgs false
namespace Go.Proofs.YtaghmffgoomebaaGreat.Wk
open Go.RowKit Mem Nd Gx Sk Tw
open Tr hiding T row
set_option maxRecDepth 100000
set_option maxHeartbeats 1000000
def lvRO (a : Option AT) (k : KeyD) (tg bt bk : Nat) (n : Int) : List Fact := [blk bt [.pointer (some ⟨tg, 0, none⟩)] 42, blk bk [.int .u16 k.v, .int .u32 k.b, .int .u64 k.s] 29, blk tg [rootV a, .int .i64 n] 55, stF a]
theorem zcj (k : KeyD) (tg bt bk : Nat) (n : Int) (w1 : World) (hB : Rds w1 (lvRO none k tg bt bk n)) :
 IterOk Tryz.prog 139 [.pointer (some ⟨bt, 0, none⟩), .pointer (some ⟨bk, 0, none⟩)] (fun t : Tr.T 0 => [.pointer (some ⟨(nd 0 t).g, 0, none⟩)]) [] (lvRO none k tg bt bk n) w1 := by
 intro l τ Γ Inv Dn t0 h0 hΓ hdis hY
 have hB' : Rds w1 [blk bt [.pointer (some ⟨tg, 0, none⟩)] 42, blk bk [.int .u16 k.v, .int .u32 k.b, .int .u64 k.s] 29, blk tg [.pointer none, .int .i64 n] 55, stF none] := hB
 have hdis' : ∀ ψ, ψ ∈ [blk bt [.pointer (some ⟨tg, 0, none⟩)] 42, blk bk [.int .u16 k.v, .int .u32 k.b, .int .u64 k.s] 29, blk tg [.pointer none, .int .i64 n] 55, stF none] → ∀ b, (Γ t0).S b → ¬ ψ.S b := hdis
 refine zab T (finE (Γ t0) w1) [Γ t0] [blk bt [.pointer (some ⟨tg, 0, none⟩)] 42, blk bk [.int .u16 k.v, .int .u32 k.b, .int .u64 k.s] 29, blk tg [.pointer none, .int .i64 n] 55, stF none] Tryz.func139 rfl Tryz.ntmps139 rfl (Kn.startM hΓ (fun b hb => (zaB hΓ.2 b).2 hb) (fun ψ hψ => ⟨hB'.mem hψ, fun b h1 => hdis' ψ hψ b h1⟩)) ?_
 refine za9 (g := bt) mE ?_
 (repeat (refine gG ?_; try intro _))
 refine cR (fun w hk => Ws.zcs w) (fun sg _ => ?_)
 (repeat' (first | (refine gH ?_; try intro _) | (refine g_mv rfl ?_; refine cb (fun w hk => zdr tg (.pointer none) n w (hk.rR mE)) ?_) | (refine gS ?_ ?_ <;> intro _) | fail))
 refine zap (fun (u : Unit) => True) (fun u => [(0, .func (.yield l) #[] #[]), (4, .pointer (some ⟨sg, 0, none⟩)), (5, .pointer none)]) (fun u => [Γ t0]) (fun u => []) (fun u => 0) () rfl trivial fS sA sS ?_
 rintro u hI
 (repeat (refine gG ?_; try intro _))
 refine zap (fun (u : Unit) => True) (fun u => [(0, .func (.yield l) #[] #[]), (4, .pointer (some ⟨sg, 0, none⟩)), (5, .pointer none)]) (fun u => [Γ t0]) (fun u => []) (fun u => 0) () rfl trivial fS sA sS ?_
 rintro u hI
 (repeat (refine gG ?_; try intro _))
 refine zdG hT rfl rfl .nil (fun w' hk => ?_)
 exact ⟨⟨_, rfl⟩, t0, hk.outM (fun b hb => zbT b hb) mE, .inl h0⟩
theorem zhi (a : Option AT) (k : KeyD) (tg bt bk : Nat) (n : Int) (ys : List (Tr.T 0)) (w1 : World) (h : LvO a k ys) (hB : Rds w1 (lvRO a k tg bt bk n)) :
 IterOk Tryz.prog 139 [.pointer (some ⟨bt, 0, none⟩), .pointer (some ⟨bk, 0, none⟩)] (fun t : Tr.T 0 => [.pointer (some ⟨(nd 0 t).g, 0, none⟩)]) ys (lvRO a k tg bt bk n) w1 := by
 cases a with
 | none =>
   obtain rfl : ys = [] := h
   exact zcj k tg bt bk n w1 hB
 | some a => exact zh1 a k tg bt bk n ys w1 h.1 h.2.1 h.2.2 hB
theorem zck (tg : Nat) (k : KeyD) (w : World) :
 Calls Tryz.prog 131 [.pointer (some ⟨tg, 0, none⟩), k.val].toArray w (Ret (fun _ : Nat × Nat => True) (fun s => .func (.func 139) #[] #[.pointer (some ⟨s.1, 0, none⟩), .pointer (some ⟨s.2, 0, none⟩)]) (fun s => [blk s.2 [.int .u16 k.v, .int .u32 k.b, .int .u64 k.s] 29, blk s.1 [.pointer (some ⟨tg, 0, none⟩)] 42]) w) := by
 refine zab T [] [] [] Tryz.func131 rfl Tryz.ntmps131 rfl (Kn.start _) ?_
 (repeat (refine gG ?_; try intro _))
 rename_i g1 g2
 refine g_yd rfl rfl (Ys.yd (zeu rfl rfl)) ?_
 (repeat (refine gG ?_; try intro _))
 refine zad hT rfl rfl (.tmp rfl .nil) (fun w' hk => ?_)
 exact Ret.mk (g1, g2) trivial rfl hk sA
theorem zkT (tg : Nat) (f t : KeyD) (w : World) :
 Calls Tryz.prog 114 [.pointer (some ⟨tg, 0, none⟩), f.val, t.val].toArray w (Ret (fun _ : Nat × Nat × Nat => True) (fun s => .func (.func 130) #[] #[.pointer (some ⟨s.1, 0, none⟩), .pointer (some ⟨s.2.1, 0, none⟩), .pointer (some ⟨s.2.2, 0, none⟩)]) (fun s => [blk s.2.2 [.int .u16 t.v, .int .u32 t.b, .int .u64 t.s] 29, blk s.2.1 [.int .u16 f.v, .int .u32 f.b, .int .u64 f.s] 29, blk s.1 [.pointer (some ⟨tg, 0, none⟩)] 42]) w) := by
 refine zab T [] [] [] Tryz.func114 rfl Tryz.ntmps114 rfl (Kn.start _) ?_
 (repeat (refine gG ?_; try intro _))
 rename_i g1 g2 g3
 refine g_yd rfl rfl (Ys.yd (zeu rfl rfl)) ?_
 (repeat (refine gG ?_; try intro _))
 refine zad hT rfl rfl (.tmp rfl .nil) (fun w' hk => ?_)
 exact Ret.mk (g1, g2, g3) trivial rfl hk sA
def rgR (a : Option AT) (f t : KeyD) (tg bt bf bo : Nat) (n : Int) : List Fact := [blk bt [.pointer (some ⟨tg, 0, none⟩)] 42, blk bf [.int .u16 f.v, .int .u32 f.b, .int .u64 f.s] 29, blk bo [.int .u16 t.v, .int .u32 t.b, .int .u64 t.s] 29, blk tg [rootV a, .int .i64 n] 55, stF a]
theorem zjT (a : Option AT) (f t : KeyD) (tg bt bf bo : Nat) (n : Int) (ys : List (Tr.T 0)) (w1 : World) (hl : LvO a f ys) (hu : UpTo t (rows ys)) (hB : Rds w1 (rgR a f t tg bt bf bo n)) :
 IterOk Tryz.prog 130 [.pointer (some ⟨bt, 0, none⟩), .pointer (some ⟨bf, 0, none⟩), .pointer (some ⟨bo, 0, none⟩)] (fun e : EntD => [e.val]) (win f t (rows ys)) (rgR a f t tg bt bf bo n) w1 := by
 intro l τ Γ Iv Dn t0 h0 hΓ hdis hY
 unfold rgR at hB hdis
 refine zab T (finE (Γ t0) w1) [Γ t0] [blk bt [.pointer (some ⟨tg, 0, none⟩)] 42, blk bf [.int .u16 f.v, .int .u32 f.b, .int .u64 f.s] 29, blk bo [.int .u16 t.v, .int .u32 t.b, .int .u64 t.s] 29, blk tg [rootV a, .int .i64 n] 55, stF a] Tryz.func130 rfl Tryz.ntmps130 rfl (Kn.startM hΓ (fun b hb => (zaB hΓ.2 b).2 hb) (fun ψ hψ => ⟨hB.mem hψ, fun b h1 => hdis ψ hψ b h1⟩)) ?_
 refine za9 (g := bt) mE ?_
 refine za9 (g := bf) mE ?_
 refine za9 (g := bo) mE ?_
 (repeat (refine gG ?_; try intro _))
 rename_i g4
 refine cR (fun w hk => zck tg f w) (fun s _ => ?_)
 obtain ⟨ct, ck⟩ := s
 (repeat (refine gG ?_; try intro _))
 refine zeo (φ := blk ck [.int .u16 f.v, .int .u32 f.b, .int .u64 f.s] 29) sE ?_
 refine zeo (φ := blk ct [.pointer (some ⟨tg, 0, none⟩)] 42) sE ?_
 refine zeo (φ := blk g4 [.func (.yield l) #[] #[]] 227) sE ?_
 refine za9 (g := g4) mE ?_
 refine zgn (σ := Nat × τ) (σx := τ) (α := Tr.T 0) (enc := fun y : Tr.T 0 => [.pointer (some ⟨(nd 0 y).g, 0, none⟩)]) (xs := ys) (RA := lvRO a f tg ct ck n) (pl := [11]) (gf := 139) (caps := [.pointer (some ⟨ct, 0, none⟩), .pointer (some ⟨ck, 0, none⟩)])
  (fun q s => Iv s.1 s.2 ∧ s.1 = (win f t (rows (ys.take q))).length ∧ ∀ e ∈ rows (ys.take q), ¬ klt t e.k) (fun s => [Γ s.2]) (fun c y => c = .ret ∧ (Iv (win f t (rows ys)).length y ∨ Dn y)) (fun _ y => [Γ y]) (0, t0) [] rfl rfl kR rfl (fun _ => rfl) (fun w hk => zhi a f tg ct ck n ys w hl (.cons (hk.rR mE) (.cons (hk.rR mE) (.cons (hk.rR mE) (.cons (hk.rR mE) .nil))))) sS ⟨h0, rfl, fun e he => by cases he⟩ sA (fun L p x s w hX hRc hI hOO hOut hOX hx hi hup => ?_) (fun D s hi => ?_) (fun D c y hy => ?_)
 ·skip
  obtain ⟨X', l', D, rc, Inv', OO', Out', OX'⟩ := L
  dsimp only at hX hI hOO hOut hOX
  subst hX hI hOO hOut hOX
  obtain ⟨m, t1⟩ := s
  dsimp only at hi
  obtain ⟨hi1, hi2, hi3⟩ := hi
  change GK _ _ _ [recF l' (rc .ready none), dfr D, Γ t1] _
  obtain ⟨b, hb, hin⟩ := hl.at (List.mem_of_getElem? hx)
  have hok : Tr.Ok 0 x := hin.ok
  have h6 : x.2.length ≤ 6 := hin.rt.2
  have hder : Der [stF a] (treeF 0 x) := by rw [hb]; exact hin.der
  refine zaY [stF a] hder sS ?_
  refine zeV (h := 0) (t := x) mE ?_
  (repeat (refine gG ?_; try intro _))
  refine zgr rfl sE (hRc.st _ _) (fun bF hbF => ?_)
  (repeat (refine gG ?_; try intro _))
  refine cR (fun w hk => zaZ (nd 0 x) x.2 w hok.1 (by omega) (hk.rR (φ := nodeF (nd 0 x)) mE)) (fun v _ => ?_)
  refine zbE _ uD (fun A c hA hA1 hA2 hA3 => ?_); subst hA
  refine zbw sE ?_
  (repeat (refine gG ?_; try intro _))
  refine gL3 (fun (j : Nat) (m : Nat) (t1 : τ) => (Iv m t1 ∧ j ≤ x.2.length ∧ m = (win f t (rows (ys.take p) ++ x.2.take j)).length ∧ ∀ e ∈ rows (ys.take p) ++ x.2.take j, ¬ klt t e.k)) (fun j m t1 => [(1, .pointer (some ⟨bt, 0, none⟩)), (2, .pointer (some ⟨bf, 0, none⟩)), (3, .pointer (some ⟨bo, 0, none⟩)), (4, .pointer (some ⟨g4, 0, none⟩)), (13, .slice A x.2.length c), (14, .int .i64 x.2.length), (15, .int .i64 j)]) (fun j m t1 => [bF, dfr D, Γ t1]) (fun j m t1 => [sl A 4 EE x.2, row g4 0 [.func (.yield l) #[] #[]], row bf 0 [.int .u16 f.v, .int .u32 f.b, .int .u64 f.s], row bo 0 [.int .u16 t.v, .int .u32 t.b, .int .u64 t.s], blk bt [.pointer (some ⟨tg, 0, none⟩)] 42, blk bf [.int .u16 f.v, .int .u32 f.b, .int .u64 f.s] 29, blk bo [.int .u16 t.v, .int .u32 t.b, .int .u64 t.s] 29, blk tg [rootV a, .int .i64 n] 55, stF a]) (fun j m t1 => x.2.length - j) 0 m t1 ⟨hi1, Nat.zero_le _, by rw [List.take_zero, List.append_nil]; exact hi2, by rw [List.take_zero, List.append_nil]; exact hi3⟩ ?_
  rintro j m t1 hI
  obtain ⟨hj1, hj2, hj3, hj4⟩ := hI
  by_cases hlt : j < x.2.length
  ·obtain ⟨e, he⟩ : ∃ e, x.2[j]? = some e := ⟨x.2[j], List.getElem?_eq_getElem hlt⟩
   obtain ⟨S, hS⟩ := zpg hx he
   have ht1 : rows (ys.take p) ++ x.2.take (j + 1) = (rows (ys.take p) ++ x.2.take j) ++ [e] := by
    obtain ⟨h1, h2⟩ := List.getElem?_eq_some_iff.1 he
    rw [List.take_succ_eq_append_getElem h1, h2, List.append_assoc]
   refine zar (enc := EE) (L := x.2) j mE hlt (by decide) (fun b1 o1 y1 eA hy1 => ?_)
   subst eA
   obtain rfl : e = y1 := by rw [he] at hy1; exact Option.some.inj hy1
   (repeat' (first | (refine gH ?_; try intro _) | (refine gS ?_ ?_ <;> intro _) | fail))
   refine cB (fun w hk => zb4 t e.k w) ?_
   (repeat (refine gG ?_; try intro _))
   refine zaJ rfl rfl (zaH _) (fun hto => ?_) (fun hto => ?_)
   ·(repeat (refine gG ?_; try intro _))
    refine zgp hRc t1 rfl ⟨rfl, .inl (by rw [zmR hS hu hto, ← hj3]; exact hj1)⟩ [Γ t1] rfl hbF sA
   ·have hno : ∀ e' ∈ rows (ys.take p) ++ x.2.take (j + 1), ¬ klt t e'.k := fun e' he' => by
     rw [ht1] at he'
     rcases List.mem_append.1 he' with h1 | h1
     ·exact hj4 e' h1
     ·obtain rfl := m1 h1
      exact hto
    (repeat (refine gG ?_; try intro _))
    refine cB (fun w hk => zb4 e.k f w) ?_
    (repeat (refine gG ?_; try intro _))
    refine zd1 rfl rfl tE (fun hfr => ?_) (fun hfr => ?_)
    ·(repeat (refine gG ?_; try intro _))
     have hfr' : ¬ klt e.k f := by first | exact hfr | simpa using hfr
     refine zia Γ t1 (fun b t2 => (b = true → Iv (m + 1) t2) ∧ (b = false → Dn t2)) rfl rfl rfl rfl rfl rfl (fun w hk => hY m e t1 w (by rw [hj3]; exact zmT hS hfr' hto) hj1 ((hup w _ _ hk).outM (fun b hb => zbT b hb) mE)) uD (fun b t2 hJ => ?_)
     cases b with
     | true =>
       (repeat (refine gG ?_; try intro _))
       refine zag rfl (j + 1, m + 1, t2) ⟨hJ.1 rfl, hlt, by rw [ht1, zev, zkp hfr' hto, List.length_append, ← hj3]; rfl, hno⟩ (by dsimp only; omega) fS sA sS
     | false =>
       (repeat (refine gG ?_; try intro _))
       refine zgp hRc t2 rfl ⟨rfl, .inr (hJ.2 rfl)⟩ [Γ t2] rfl hbF sA
    ·have hfr' : klt e.k f := by first | exact hfr | (by_cases h : klt e.k f; exact h; exact absurd h hfr)
     (repeat (refine gG ?_; try intro _))
     refine zag rfl (j + 1, m, t1) ⟨hj1, hlt, by rw [ht1, zev, zmS (.inl hfr'), List.append_nil]; exact hj3, hno⟩ (by dsimp only; omega) fS sA sS
  ·have hjl : j = x.2.length := by omega
   subst hjl
   rw [List.take_length, ← zgY hx] at hj3 hj4
   (repeat' (first | (refine gH ?_; try intro _) | (refine gS ?_ ?_ <;> intro _) | fail))
   refine zgl hRc (m, t1) rfl ⟨hj1, hj3, hj4⟩ [Γ t1] rfl hbF sA
 ·obtain ⟨m, t1⟩ := s
  dsimp only at hi
  obtain ⟨hi1, hi2, hi3⟩ := hi
  rw [List.take_length] at hi2
  subst hi2
  change GK _ _ _ [dfr D, Γ t1] _
  (repeat (refine gG ?_; try intro _))
  refine zpK hT (.cons sE .nil) rfl rfl .nil (fun w' hk => ?_)
  exact ⟨⟨_, rfl⟩, t1, hk.outM (fun b hb => zbT b hb) mE, .inl hi1⟩
 ·obtain ⟨rfl, hy⟩ := hy
  change GK _ _ _ [dfr D, Γ y] _
  refine zgm hT (.cons sE .nil) rfl rfl .nil (fun w' hk => ?_)
  exact ⟨⟨_, rfl⟩, y, hk.outM (fun b hb => zbT b hb) mE, hy⟩
end Go.Proofs.YtaghmffgoomebaaGreat.Wk
namespace Go.Proofs.YtaghmffgoomebaaGreat.Wk
open Go.RowKit Mem Nd Gx
set_option maxRecDepth 100000
set_option maxHeartbeats 1000000
theorem zg2 {w : World} : ∀ {l : List Fact}, (∀ φ, φ ∈ l → Rd1 w φ) → Rds w l
 | [], _ => .nil
 | _ :: _, h => .cons (h _ (.head _)) (zg2 fun φ hφ => h φ (.tail _ hφ))
theorem Kn.rds {E : List Nat} {w0 w : World} {O R l : List Fact} (h : Kn E w0 w O R) (hl : l ⊆ R) : Rds w l := zg2 fun φ hφ => h.rR (hl hφ)
theorem znB (gf : Nat) (caps : List Value) (xs : List EntD) (RA : List Fact) (w : World) (hok : callable Tryz.prog gf = true) (hB : Rds w RA) (hit : ∀ w', Rds w' RA → IterOk Tryz.prog gf caps (fun e : EntD => [e.val]) xs RA w') (h9 : xs.length ≤ 10000) :
 Calls Tryz.prog 113 [.func (.func gf) #[] caps.toArray].toArray w (Ret (fun _ : Value => True) (fun v => v) (fun v => [own 0 31 4 v EE xs]) w) := by
 refine zab T [] [] RA Tryz.func113 rfl Tryz.ntmps113 rfl hB.kn ?_
 (repeat (refine gG ?_; try intro _))
 rename_i g3
 refine zbO 0 31 4 EE ?_
 refine zgn (σ := Value × List EntD) (σx := Unit) (α := EntD) (enc := fun e : EntD => [e.val]) (xs := xs) (RA := RA) (pl := [6]) (gf := gf) (caps := caps) (fun q s => s.2 = xs.take q) (fun s => [blk g3 [s.1] 22, own 0 31 4 s.1 EE s.2]) (fun _ _ => False) (fun _ _ => []) (.slice none 0 0, []) [] rfl rfl hok rfl (fun _ => rfl) (fun w hk => hit w (Kn.rds hk (List.Subset.refl _))) (List.Subset.refl _) rfl sA (fun L q x s w hX hRc hI hOO hOut hOX hx hi hup => ?_) (fun D s hi => ?_) (fun D c y h => h.elim)
 ·obtain ⟨X', l, D, rc, Inv', OO', Out', OX'⟩ := L
  dsimp only at hX hI hOO hOut hOX
  subst hX hI hOO hOut hOX
  obtain ⟨v, M⟩ := s
  dsimp only at hi
  subst hi
  change GK _ _ _ [recF l (rc .ready none), dfr D, blk g3 [v] 22, own 0 31 4 v EE (xs.take q)] _
  (repeat (refine gG ?_; try intro _))
  refine zgr rfl sE (hRc.st _ _) (fun bF hbF => ?_)
  (repeat (refine gG ?_; try intro _))
  refine g_mv rfl (zac (L := xs.take q) rfl [x] rfl rfl rfl rfl zb7 uD (zah mE rfl) rfl oneE (by have := List.length_take_le' q xs; simp only [maxLen, List.length_cons, List.length_nil]; omega) (by have := List.length_take_le' q xs; simp only [List.length_cons, List.length_nil]; omega) (Nat.zero_le _) (fun v1 => ?_))
  refine zc5 v1 mE (fun A1 c1 hv1 _ _ _ => ?_)
  subst hv1
  (repeat (refine gG ?_; try intro _))
  refine zgl hRc (.slice A1 (xs.take q ++ [x]).length c1, xs.take q ++ [x]) rfl (by obtain ⟨h1, h2⟩ := List.getElem?_eq_some_iff.1 hx; show xs.take q ++ [x] = xs.take (q + 1); rw [List.take_succ_eq_append_getElem h1, h2]) [blk g3 [.slice A1 (xs.take q ++ [x]).length c1] 22, own 0 31 4 (.slice A1 (xs.take q ++ [x]).length c1) EE (xs.take q ++ [x])] rfl hbF sA
 ·obtain ⟨v, M⟩ := s
  dsimp only at hi
  subst hi
  change GK _ _ _ [dfr D, blk g3 [v] 22, own 0 31 4 v EE (xs.take xs.length)] _
  (repeat (refine gG ?_; try intro _))
  rw [List.take_length]
  refine zgm hT (.cons sE .nil) rfl rfl (.tmp rfl .nil) (fun w' hk => ?_)
  exact Ret.mk v trivial rfl hk sA
end Go.Proofs.YtaghmffgoomebaaGreat.Wk
namespace Go.Proofs.YtaghmffgoomebaaGreat.Wk
open Go.RowKit Mem Nd Gx Sk Tw
open Tr hiding T row
set_option maxRecDepth 100000
set_option maxHeartbeats 1000000
theorem zou (f t : KeyD) (l : List EntD) : (win f t l).length ≤ l.length := List.length_filter_le ..
def maxK : KeyD := ⟨65535, 4294967295, 18446744073709551615⟩
theorem zmi (w : World) : Calls Tryz.prog 115 #[] w fun e w' => e = .returned (.agg #[.int .u16 65535, .int .u32 4294967295, .int .u64 18446744073709551615]) ∧ Below w.heap.size w w' := by
 refine zab T [] [] [] Tryz.func115 rfl Tryz.ntmps115 rfl (Kn.start _) ?_
 (repeat (refine gG ?_; try intro _))
 refine zad hT rfl rfl (.cell rfl mE rfl rfl .nil) (fun w' hk => ?_)
 exact ⟨rfl, hk.toBelow⟩
theorem zqb (a : Option AT) (tg : Nat) (n : Int) (f t : KeyD) (ys : List (Tr.T 0)) (w : World) (ef : f = ⟨0, 0, 0⟩) (et : t = maxK) (hl : LvO a f ys) (hu : UpTo t (rows ys)) (h9 : (rows ys).length ≤ 10000) (hB : Rd1 w (blk tg [rootV a, .int .i64 n] 55)) (hF : Rd1 w (stF a)) :
 Calls Tryz.prog 85 [.pointer (some ⟨tg, 0, none⟩)].toArray w (Ret (fun _ : Value => True) (fun v => v) (fun v => [own 0 31 4 v EE (win f t (rows ys))]) w) := by
 refine zab T [] [] [blk tg [rootV a, .int .i64 n] 55, stF a] Tryz.func85 rfl Tryz.ntmps85 rfl (Rds.cons hB (.cons hF .nil)).kn ?_
 (repeat' (first | (refine gH ?_; try intro _) | (refine g_mv rfl ?_; refine cb (fun w hk => zmi w) ?_) | (refine gS ?_ ?_ <;> intro _) | fail))
 refine cR (fun w hk => zkT tg ⟨0, 0, 0⟩ maxK w) (fun s _ => ?_)
 rw [← ef, ← et]
 obtain ⟨ct, cf, co⟩ := s
 dsimp only
 refine zbw (φ := blk co [.int .u16 t.v, .int .u32 t.b, .int .u64 t.s] 29) sE ?_
 refine zbw (φ := blk cf [.int .u16 f.v, .int .u32 f.b, .int .u64 f.s] 29) sE ?_
 refine zbw (φ := blk ct [.pointer (some ⟨tg, 0, none⟩)] 42) sE ?_
 refine cR (fun w hk => znB 130 [.pointer (some ⟨ct, 0, none⟩), .pointer (some ⟨cf, 0, none⟩), .pointer (some ⟨co, 0, none⟩)] (win f t (rows ys)) (rgR a f t tg ct cf co n) w kR (.cons (hk.rR mE) (.cons (hk.rR mE) (.cons (hk.rR mE) (.cons (hk.rR mE) (.cons (hk.rR mE) .nil))))) (fun w' hB' => zjT a f t tg ct cf co n ys w' hl hu hB') (Nat.le_trans (zou f t _) h9)) (fun v _ => ?_)
 (repeat (refine gG ?_; try intro _))
 refine zad hT rfl rfl (.tmp rfl .nil) (fun w' hk => ?_)
 exact Ret.mk v trivial rfl hk sA
end Go.Proofs.YtaghmffgoomebaaGreat.Wk
namespace Go.Proofs.YtaghmffgoomebaaGreat.Ck
open Go.RowKit Mem Nd Gx Sk Tw Wk
open Tr hiding T row
set_option maxRecDepth 100000
set_option maxHeartbeats 1000000
theorem zjG {L : List KeyD} (h : ∀ i, i + 1 < L.length → klt (L.getD i default) (L.getD (i + 1) default)) : AscK L := by
 intro i j hij hj
 induction j with
 | zero => omega
 | succ j ih =>
   by_cases e : i = j
   ·subst e
    exact h i hj
   ·exact zbr (ih (by omega) (by omega)) (h j hj)
theorem zkl (g : Nat) (lf : Bool) (KA : Option Addr) (kn kc : Nat) (V C : SlV) (a : Int) (Ks : List KeyD) (w : World) (hn : kn = Ks.length) (h9 : kn ≤ 1000000) (hB : Rd1 w (row g 0 [.bool lf, .slice KA kn kc, V.v, C.v, .int .u32 a])) (hK : Rd1 w (sl KA 3 KE Ks)) :
 Calls Tryz.prog 53 [.pointer (some ⟨g, 0, none⟩)].toArray w fun e w' => e = .returned (.bool (tB (AscK Ks))) ∧ Below w.heap.size w w' := by
 refine zab T [] [] [row g 0 [.bool lf, .slice KA kn kc, V.v, C.v, .int .u32 a], sl KA 3 KE Ks] Tryz.func53 rfl Tryz.ntmps53 rfl (Rds.cons hB (.cons hK .nil)).kn ?_
 (repeat (refine gG ?_; try intro _))
 refine zap (fun (i : Nat) => (i ≤ kn ∧ ∀ j, j + 1 < i → klt (Ks.getD j default) (Ks.getD (j + 1) default))) (fun i => [(0, .pointer (some ⟨g, 0, none⟩)), (8, .slice KA kn kc), (9, .int .i64 kn), (10, .int .i64 i)]) (fun i => []) (fun i => [row g 0 [.bool lf, .slice KA kn kc, V.v, C.v, .int .u32 a], sl KA 3 KE Ks]) (fun i => kn - i) 0 rfl ⟨Nat.zero_le _, fun j hj => absurd hj (by omega)⟩ fS sA sS ?_
 rintro i hI
 obtain ⟨hi, hA⟩ := hI
 by_cases hlt : i < kn
 ·obtain ⟨k, hks⟩ : ∃ k, Ks[i]? = some k := ⟨Ks[i], List.getElem?_eq_getElem (by omega)⟩
  refine zar (enc := KE) (L := Ks) i mE (by omega) (by decide) (fun b1 o1 y1 eA hy1 => ?_)
  subst eA
  obtain rfl : k = y1 := by rw [hks] at hy1; exact Option.some.inj hy1
  (repeat' (first | (refine gH ?_; try intro _) | (refine gS ?_ ?_ <;> intro _) | fail))
  rename_i g4
  cases i with
  | zero =>
    refine zas [0, 1] (Cut _ (fun _ : Unit => [(0, .pointer (some ⟨g, 0, none⟩)), (8, .slice (some ⟨b1, o1, none⟩) kn kc), (9, .int .i64 kn), (10, .int .i64 ((0 : Nat) : Int)), (29, .bool false)]) (fun _ => []) (fun _ => [row g 0 [.bool lf, .slice (some ⟨b1, o1, none⟩) kn kc, V.v, C.v, .int .u32 a], sl (some ⟨b1, o1, none⟩) 3 KE Ks])) rfl rfl kR ?_ (zaD fun _ => ?_)
    ·skip
     refine gY hT 0 ?_
     refine gY hT 1 ?_
     try (refine zam 16 (.bool false) rfl (congrArg Value.bool (zaj (by omega))) ?_)
     refine gY hT 2 ?_
     first | refine gY hT 3 ?_ | refine gZ 3 ?_
     first | refine gY hT 4 ?_ | refine gZ 4 ?_
     first | refine gY hT 5 ?_ | refine gZ 5 ?_
     first | refine gW hT 6 ?_ | refine gZ 6 ?_
     first | refine gY hT 7 ?_ | refine gZ 7 ?_
     first | refine gY hT 8 ?_ | refine gZ 8 ?_
     first | refine gY hT 9 ?_ | refine gZ 9 ?_
     first | refine gW hT 10 ?_ | refine gZ 10 ?_
     first | refine gW hT 11 ?_ | refine gZ 11 ?_
     first | refine gZ 12 ?_ | (refine gP 12 ?_; (first | (refine zaT rfl rfl rfl rfl ?_; intro _) | (refine zay rfl hT rfl rfl ?_; intro _) | refine zat hT rfl rfl rfl rfl rfl rfl sO rfl ?_ | (refine zaa rfl hT rfl rfl rfl rfl rfl rfl rfl rfl ?_; intro _)); refine ⟨sF, ?_⟩)
     first | refine gY hT 13 ?_ | refine gZ 13 ?_
     refine gY hT 14 ?_
     refine zak dK ?_
     exact ⟨(), fS, sA, sS⟩
    ·(repeat (refine gG ?_; try intro _))
     refine zag rfl 1 ⟨by omega, fun j hj => absurd hj (by omega)⟩ (by omega) fS sA sS
  | succ m =>
    obtain ⟨k0, hk0⟩ : ∃ k, Ks[m]? = some k := ⟨Ks[m], List.getElem?_eq_getElem (by omega)⟩
    refine zar (enc := KE) (L := Ks) m mE (by omega) (by decide) (fun b2 o2 y2 eA hy2 => ?_)
    injection eA with eA
    injection eA with e2 e3
    subst e2 e3
    obtain rfl : k0 = y2 := by rw [hk0] at hy2; exact Option.some.inj hy2
    by_cases hlk : klt k0 k
    ·refine zas [0, 1, 2, 3] (Cut _ (fun _ : Unit => [(0, .pointer (some ⟨g, 0, none⟩)), (8, .slice (some ⟨b1, o1, none⟩) kn kc), (9, .int .i64 kn), (10, .int .i64 ((m + 1 : Nat) : Int)), (29, .bool false)]) (fun _ => []) (fun _ => [row g 0 [.bool lf, .slice (some ⟨b1, o1, none⟩) kn kc, V.v, C.v, .int .u32 a], sl (some ⟨b1, o1, none⟩) 3 KE Ks])) rfl rfl kR ?_ (zaD fun _ => ?_)
     ·skip
      refine gY hT 0 ?_
      refine gY hT 1 ?_
      try (refine zam 16 (.bool true) rfl (congrArg Value.bool (zan (by omega))) ?_)
      refine gY hT 2 ?_
      first | refine gY hT 3 ?_ | refine gZ 3 ?_
      first | refine gY hT 4 ?_ | refine gZ 4 ?_
      first | refine gY hT 5 ?_ | refine gZ 5 ?_
      first | refine gW hT 6 ?_ | refine gZ 6 ?_
      first | refine gY hT 7 ?_ | refine gZ 7 ?_
      first | refine gY hT 8 ?_ | refine gZ 8 ?_
      try (refine zam 23 (.int .i64 (m : Nat)) rfl (by congr 1; omega) ?_)
      first | refine gY hT 9 ?_ | refine gZ 9 ?_
      first | refine gW hT 10 ?_ | refine gZ 10 ?_
      first | refine gW hT 11 ?_ | refine gZ 11 ?_
      first | refine gZ 12 ?_ | (refine gP 12 ?_; (refine zau (fun w hk => zb4 k0 k w) rfl rfl rfl rfl rfl kR ?_); refine ⟨sF, ?_⟩)
      try (refine zam 27 (.bool true) rfl (congrArg Value.bool (zan hlk)) ?_)
      first | refine gY hT 13 ?_ | refine gZ 13 ?_
      refine gY hT 14 ?_
      refine zak dK ?_
      exact ⟨(), fS, sA, sS⟩
     ·(repeat (refine gG ?_; try intro _))
      refine zag rfl (m + 1 + 1) ⟨by omega, fun j hj => ?_⟩ (by omega) fS sA sS
      by_cases e : j = m
      ·subst e
       rw [getD_at hk0, getD_at hks]
       exact hlk
      ·exact hA j (by omega)
    ·refine zas [0, 1, 2, 3] (Cut _ (fun _ : Unit => [(0, .pointer (some ⟨g, 0, none⟩)), (29, .bool true)]) (fun _ => []) (fun _ => [])) rfl rfl kR ?_ (zaD fun _ => ?_)
     ·skip
      refine gY hT 0 ?_
      refine gY hT 1 ?_
      try (refine zam 16 (.bool true) rfl (congrArg Value.bool (zan (by omega))) ?_)
      refine gY hT 2 ?_
      first | refine gY hT 3 ?_ | refine gZ 3 ?_
      first | refine gY hT 4 ?_ | refine gZ 4 ?_
      first | refine gY hT 5 ?_ | refine gZ 5 ?_
      first | refine gW hT 6 ?_ | refine gZ 6 ?_
      first | refine gY hT 7 ?_ | refine gZ 7 ?_
      first | refine gY hT 8 ?_ | refine gZ 8 ?_
      try (refine zam 23 (.int .i64 (m : Nat)) rfl (by congr 1; omega) ?_)
      first | refine gY hT 9 ?_ | refine gZ 9 ?_
      first | refine gW hT 10 ?_ | refine gZ 10 ?_
      first | refine gW hT 11 ?_ | refine gZ 11 ?_
      first | refine gZ 12 ?_ | (refine gP 12 ?_; (refine zau (fun w hk => zb4 k0 k w) rfl rfl rfl rfl rfl kR ?_); refine ⟨sF, ?_⟩)
      try (refine zam 27 (.bool false) rfl (congrArg Value.bool (zaj hlk)) ?_)
      first | refine gY hT 13 ?_ | refine gZ 13 ?_
      refine gY hT 14 ?_
      refine zak dK ?_
      exact ⟨(), fS, sA, sS⟩
     ·(repeat (refine gG ?_; try intro _))
      refine zad hT rfl rfl (.tmp rfl .nil) (fun w' hk => ?_)
      refine ⟨?_, hk.toBelow⟩
      rw [zaj (fun h : AscK Ks => hlk (by have := h m (m + 1) (by omega) (by omega); rw [getD_at hk0, getD_at hks] at this; exact this))]
      rfl
 ·(repeat' (first | (refine gH ?_; try intro _) | (refine gS ?_ ?_ <;> intro _) | fail))
  refine zad hT rfl rfl (.tmp rfl .nil) (fun w' hk => ?_)
  refine ⟨?_, hk.toBelow⟩
  rw [zan (zjG fun j hj => hA j (by omega))]
  rfl
def FillP (leaf rt : Bool) (kn vn cn : Nat) : Prop := (if rt = true then (if leaf = true then 1 else 2) else 3) ≤ kn ∧ kn ≤ 6 ∧ (if leaf = true then vn else cn) = kn
theorem zmE (g : Nat) (dp : Int) (lf rt : Bool) (KA VA CA : Option Addr) (kn kc vn vc cn cc : Nat) (a : Int) (w : World) (hk9 : kn ≤ 1000000) (hv9 : vn ≤ 1000000) (hc9 : cn ≤ 1000000) (hB0 : w.heap[g]? = some (.cells [.bool lf, .slice KA kn kc, .slice VA vn vc, .slice CA cn cc, .int .u32 a].toArray 109 (0, 0))) :
 Calls Tryz.prog 54 [.agg #[.pointer (some ⟨g, 0, none⟩), .int .i64 dp, .bool rt]].toArray w fun e w' => e = .returned (.bool (tB (FillP lf rt kn vn cn))) ∧ Below w.heap.size w w' := by
 have hlt : g < w.heap.size := by
  rcases Nat.lt_or_ge g w.heap.size with h | h
  ·exact h
  ·rw [Array.getElem?_eq_none h] at hB0; cases hB0
 have hB : Rd1 w (blk g [.bool lf, .slice KA kn kc, .slice VA vn vc, .slice CA cn cc, .int .u32 a] 109) := ⟨hB0, fun b hb => by
  have : b = g := hb
  omega⟩
 refine zab T [] [] [row g 0 [.bool lf, .slice KA kn kc, .slice VA vn vc, .slice CA cn cc, .int .u32 a], blk g [.bool lf, .slice KA kn kc, .slice VA vn vc, .slice CA cn cc, .int .u32 a] 109] Tryz.func54 rfl Tryz.ntmps54 rfl (Rds.cons hB.row (.cons hB .nil)).kn ?_
 cases lf <;> cases rt
 all_goals
  (repeat' (first | (refine gH ?_; try intro _) | (refine g_mv rfl ?_; refine cb (fun w hk => zaX g [] _ ⟨KA, kn, kc⟩ ⟨VA, vn, vc⟩ ⟨CA, cn, cc⟩ a w (hk.pR (blk g _ 109) mE)) ?_) | (refine gS ?_ ?_ <;> intro _) | fail))
 all_goals
  refine zad hT rfl rfl (.tmp rfl .nil) (fun w' hk => ?_)
  refine ⟨zcW ?_, hk.toBelow⟩
  dsimp only at *
  simp [FillP, zed]
  try omega
end Go.Proofs.YtaghmffgoomebaaGreat.Ck
