/- walk.leaves, walk.Range: the entries from a key on, up to another one, as an iterator. walk.list: what is gone through, as a row. walk.All, Volume, Block, Count; the law's first: what they give of any tree. -/
import Derived.Test.YtaghmffgoomebaaGreatWl
import Derived.Test.YtaghmffgoomebaaGreatNdO
import Derived.Test.YtaghmffgoomebaaGreatGxW
namespace Go.Proofs.YtaghmffgoomebaaGreat.Wk
open Go.RowKit Mem Nd Gx Sk Tw
open Tr hiding T row
set_option linter.unusedVariables false
set_option linter.unusedSimpArgs false
set_option maxRecDepth 100000
set_option maxHeartbeats 1000000
def lvRO (a : Option AT) (k : KeyD) (tg bt bk : Nat) (n : Int) : List Fact := [blk bt [.pointer (some ⟨tg, 0, none⟩)] 42, blk bk [.int .u16 k.v, .int .u32 k.b, .int .u64 k.s] 29, blk tg [rootV a, .int .i64 n] 55, stF a]
theorem leaves_nil (k : KeyD) (tg bt bk : Nat) (n : Int) (w1 : World) (hB : Rds w1 (lvRO none k tg bt bk n)) :
    IterOk Tryz.prog 139 [.pointer (some ⟨bt, 0, none⟩), .pointer (some ⟨bk, 0, none⟩)] (fun t : Tr.T 0 => [.pointer (some ⟨(nd 0 t).g, 0, none⟩)]) [] (lvRO none k tg bt bk n) w1 := by
  intro l τ Γ Inv Dn t0 h0 hΓ hdis hY
  have hB' : Rds w1 [blk bt [.pointer (some ⟨tg, 0, none⟩)] 42, blk bk [.int .u16 k.v, .int .u32 k.b, .int .u64 k.s] 29, blk tg [.pointer none, .int .i64 n] 55, stF none] := hB
  have hdis' : ∀ ψ, ψ ∈ [blk bt [.pointer (some ⟨tg, 0, none⟩)] 42, blk bk [.int .u16 k.v, .int .u32 k.b, .int .u64 k.s] 29, blk tg [.pointer none, .int .i64 n] 55, stF none] → ∀ b, (Γ t0).S b → ¬ ψ.S b := hdis
  refine g_enter0 T (finE (Γ t0) w1) [Γ t0] [blk bt [.pointer (some ⟨tg, 0, none⟩)] 42, blk bk [.int .u16 k.v, .int .u32 k.b, .int .u64 k.s] 29, blk tg [.pointer none, .int .i64 n] 55, stF none] Tryz.func139 rfl Tryz.ntmps139 rfl (Kn.startM hΓ (fun b hb => (finE_mem hΓ.2 b).2 hb) (fun ψ hψ => ⟨hB'.mem hψ, fun b h1 => hdis' ψ hψ b h1⟩)) ?_
  refine gk_rowR (g := bt) mE ?_
  (repeat (refine gG ?_; try intro _))
  refine g_mv rfl ?_; refine mv_call_rt (fun w hk => Ws.snew_any w) rfl rfl rfl rfl rfl (by kernel_rfl) (fun _ => rfl) (fun sg _ => ?_)
  (repeat' (first | (refine gG ?_; try intro _) | (refine g_mv rfl ?_; first | refine mv_call_bel (fun w hk => troot_any tg (.pointer none) n w (hk.rR mE)) rfl rfl rfl rfl rfl (by kernel_rfl) ?_) | ((first | refine g_split rfl rfl tE (fun _ => ?_) (fun _ => ?_) | refine gk_cond rfl rfl tE (fun _ => ?_) (fun _ => ?_)) <;> (try first | (exfalso; omega; done) | (rename_i hx; exact absurd rfl hx) | (rename_i hx; cases hx; done)))))
  refine gk_loop_sel (fun (u : Unit) => True) (fun (u : Unit) => [(0, .func (.yield l) #[] #[]), (4, .pointer (some ⟨sg, 0, none⟩)), (5, .pointer none)]) (fun (u : Unit) => [Γ t0]) (fun (u : Unit) => []) (fun (u : Unit) => 0) () rfl trivial fS sA sS ?_
  rintro u hI
  replace hI : True := hI
  change GK _ _ [(0, .func (.yield l) #[] #[]), (4, .pointer (some ⟨sg, 0, none⟩)), (5, .pointer none)] [Γ t0] []
  (repeat (refine gG ?_; try intro _))
  refine gk_loop_sel (fun (u : Unit) => True) (fun (u : Unit) => [(0, .func (.yield l) #[] #[]), (4, .pointer (some ⟨sg, 0, none⟩)), (5, .pointer none)]) (fun (u : Unit) => [Γ t0]) (fun (u : Unit) => []) (fun (u : Unit) => 0) () rfl trivial fS sA sS ?_
  rintro u hI
  replace hI : True := hI
  change GK _ _ [(0, .func (.yield l) #[] #[]), (4, .pointer (some ⟨sg, 0, none⟩)), (5, .pointer none)] [Γ t0] []
  (repeat (refine gG ?_; try intro _))
  refine gk_fin hT rfl rfl .nil (fun w' hk => ?_)
  exact ⟨⟨_, rfl⟩, t0, hk.outM (fun b hb => finE_in b hb) mE, .inl h0⟩
theorem leaves_iterO (a : Option AT) (k : KeyD) (tg bt bk : Nat) (n : Int) (ys : List (Tr.T 0)) (w1 : World) (h : LvO a k ys) (hB : Rds w1 (lvRO a k tg bt bk n)) :
    IterOk Tryz.prog 139 [.pointer (some ⟨bt, 0, none⟩), .pointer (some ⟨bk, 0, none⟩)] (fun t : Tr.T 0 => [.pointer (some ⟨(nd 0 t).g, 0, none⟩)]) ys (lvRO a k tg bt bk n) w1 := by
  cases a with
  | none =>
    obtain rfl : ys = [] := h
    exact leaves_nil k tg bt bk n w1 hB
  | some a => exact leaves_iter a k tg bt bk n ys w1 h.1 h.2.1 h.2.2 hB
theorem leaves_any (tg : Nat) (k : KeyD) (w : World) :
    Calls Tryz.prog 131 [.pointer (some ⟨tg, 0, none⟩), k.val].toArray w (Ret (fun _ : Nat × Nat => True) (fun s => .func (.func 139) #[] #[.pointer (some ⟨s.1, 0, none⟩), .pointer (some ⟨s.2, 0, none⟩)]) (fun s => [blk s.2 [.int .u16 k.v, .int .u32 k.b, .int .u64 k.s] 29, blk s.1 [.pointer (some ⟨tg, 0, none⟩)] 42]) w) := by
  refine g_enter0 T [] [] [] Tryz.func131 rfl Tryz.ntmps131 rfl (Kn.start _) ?_
  (repeat (refine gG ?_; try intro _))
  rename_i g1 g2
  refine g_yd rfl rfl (Ys.yd (ys_makeFunc rfl rfl)) ?_
  (repeat (refine gG ?_; try intro _))
  refine gk_ret hT rfl rfl (.tmp rfl .nil) (fun w' hk => ?_)
  exact Ret.mk (g1, g2) trivial rfl hk sA
theorem range_any (tg : Nat) (f t : KeyD) (w : World) :
    Calls Tryz.prog 114 [.pointer (some ⟨tg, 0, none⟩), f.val, t.val].toArray w (Ret (fun _ : Nat × Nat × Nat => True) (fun s => .func (.func 130) #[] #[.pointer (some ⟨s.1, 0, none⟩), .pointer (some ⟨s.2.1, 0, none⟩), .pointer (some ⟨s.2.2, 0, none⟩)]) (fun s => [blk s.2.2 [.int .u16 t.v, .int .u32 t.b, .int .u64 t.s] 29, blk s.2.1 [.int .u16 f.v, .int .u32 f.b, .int .u64 f.s] 29, blk s.1 [.pointer (some ⟨tg, 0, none⟩)] 42]) w) := by
  refine g_enter0 T [] [] [] Tryz.func114 rfl Tryz.ntmps114 rfl (Kn.start _) ?_
  (repeat (refine gG ?_; try intro _))
  rename_i g1 g2 g3
  refine g_yd rfl rfl (Ys.yd (ys_makeFunc rfl rfl)) ?_
  (repeat (refine gG ?_; try intro _))
  refine gk_ret hT rfl rfl (.tmp rfl .nil) (fun w' hk => ?_)
  exact Ret.mk (g1, g2, g3) trivial rfl hk sA
/-- What the iterator of Range reads. -/
def rgR (a : Option AT) (f t : KeyD) (tg bt bf bo : Nat) (n : Int) : List Fact := [blk bt [.pointer (some ⟨tg, 0, none⟩)] 42, blk bf [.int .u16 f.v, .int .u32 f.b, .int .u64 f.s] 29, blk bo [.int .u16 t.v, .int .u32 t.b, .int .u64 t.s] 29, blk tg [rootV a, .int .i64 n] 55, stF a]
theorem range_iter (a : Option AT) (f t : KeyD) (tg bt bf bo : Nat) (n : Int) (ys : List (Tr.T 0)) (w1 : World) (hl : LvO a f ys) (hu : UpTo t (rows ys)) (hB : Rds w1 (rgR a f t tg bt bf bo n)) :
    IterOk Tryz.prog 130 [.pointer (some ⟨bt, 0, none⟩), .pointer (some ⟨bf, 0, none⟩), .pointer (some ⟨bo, 0, none⟩)] (fun e : EntD => [e.val]) (win f t (rows ys)) (rgR a f t tg bt bf bo n) w1 := by
  intro l τ Γ Iv Dn t0 h0 hΓ hdis hY
  unfold rgR at hB hdis
  refine g_enter0 T (finE (Γ t0) w1) [Γ t0] [blk bt [.pointer (some ⟨tg, 0, none⟩)] 42, blk bf [.int .u16 f.v, .int .u32 f.b, .int .u64 f.s] 29, blk bo [.int .u16 t.v, .int .u32 t.b, .int .u64 t.s] 29, blk tg [rootV a, .int .i64 n] 55, stF a] Tryz.func130 rfl Tryz.ntmps130 rfl (Kn.startM hΓ (fun b hb => (finE_mem hΓ.2 b).2 hb) (fun ψ hψ => ⟨hB.mem hψ, fun b h1 => hdis ψ hψ b h1⟩)) ?_
  refine gk_rowR (g := bt) mE ?_
  refine gk_rowR (g := bf) mE ?_
  refine gk_rowR (g := bo) mE ?_
  (repeat (refine gG ?_; try intro _))
  rename_i g4
  refine g_mv rfl ?_; refine mv_call_rt (fun w hk => leaves_any tg f w) rfl rfl rfl rfl rfl (by kernel_rfl) (fun _ => rfl) (fun s _ => ?_)
  obtain ⟨ct, ck⟩ := s
  (repeat (refine gG ?_; try intro _))
  refine gk_share (φ := blk ck [.int .u16 f.v, .int .u32 f.b, .int .u64 f.s] 29) (by repeat (first | with_reducible exact Sel.here | with_reducible apply Sel.there)) ?_
  refine gk_share (φ := blk ct [.pointer (some ⟨tg, 0, none⟩)] 42) (by repeat (first | with_reducible exact Sel.here | with_reducible apply Sel.there)) ?_
  refine gk_share (φ := blk g4 [.func (.yield l) #[] #[]] 227) (by repeat (first | with_reducible exact Sel.here | with_reducible apply Sel.there)) ?_
  refine gk_rowR (g := g4) mE ?_
  refine gk_range (σ := Nat × τ) (σx := τ) (α := Tr.T 0) (enc := fun y : Tr.T 0 => [.pointer (some ⟨(nd 0 y).g, 0, none⟩)]) (xs := ys) (RA := lvRO a f tg ct ck n) (pl := [11]) (gf := 139) (caps := [.pointer (some ⟨ct, 0, none⟩), .pointer (some ⟨ck, 0, none⟩)])
    (fun q s => Iv s.1 s.2 ∧ s.1 = (win f t (rows (ys.take q))).length ∧ ∀ e ∈ rows (ys.take q), ¬ klt t e.k) (fun s => [Γ s.2]) (fun c y => c = .ret ∧ (Iv (win f t (rows ys)).length y ∨ Dn y)) (fun _ y => [Γ y]) (0, t0) [] rfl rfl (by kernel_rfl) rfl (fun _ => rfl) (fun w hk => leaves_iterO a f tg ct ck n ys w hl (.cons (hk.rR mE) (.cons (hk.rR mE) (.cons (hk.rR mE) (.cons (hk.rR mE) .nil))))) sS ⟨h0, rfl, fun e he => by cases he⟩ sA (fun L p x s w hX hRc hI hOO hOut hOX hx hi hup => ?_) (fun D s hi => ?_) (fun D c y hy => ?_)
  · skip
    obtain ⟨X', l', D, rc, Inv', OO', Out', OX'⟩ := L
    dsimp only at hX hI hOO hOut hOX
    subst hX hI hOO hOut hOX
    obtain ⟨m, t1⟩ := s
    dsimp only at hi
    obtain ⟨hi1, hi2, hi3⟩ := hi
    change GK _ _ _ [recF l' (rc .ready none), dfr D, Γ t1] _
    obtain ⟨b, hb, hin⟩ := hl.at (List.mem_of_getElem? hx)
    have hok : Tr.Ok 0 x := hin.ok
    have h6 : x.2.length ≤ 6 := hin.rt.2
    have hder : Der [stF a] (treeF 0 x) := by rw [hb]; exact hin.der
    refine gk_der [stF a] hder sS ?_
    refine gk_tnd (h := 0) (t := x) mE ?_
    (repeat (refine gG ?_; try intro _))
    refine gk_begin rfl (by repeat (first | with_reducible exact Sel.here | with_reducible apply Sel.there)) (hRc.st _ _) (fun bF hbF => ?_)
    (repeat (refine gG ?_; try intro _))
    refine g_mv rfl ?_; refine mv_call_rt (fun w hk => entries_leaf (nd 0 x) x.2 w hok.1 (by omega) (hk.rR (φ := nodeF (nd 0 x)) mE)) rfl rfl rfl rfl rfl (by kernel_rfl) (fun _ => rfl) (fun v _ => ?_)
    refine g_freeze _ uD (fun A c hA hA1 hA2 hA3 => ?_); subst hA
    refine g_share (by repeat (first | with_reducible exact Sel.here | with_reducible apply Sel.there)) ?_
    (repeat (refine gG ?_; try intro _))
    refine gk_loop_sel (fun (q : Nat × Nat × τ) => match q with | (j, m, t1) => (Iv m t1 ∧ j ≤ x.2.length ∧ m = (win f t (rows (ys.take p) ++ x.2.take j)).length ∧ ∀ e ∈ rows (ys.take p) ++ x.2.take j, ¬ klt t e.k)) (fun (q : Nat × Nat × τ) => match q with | (j, m, t1) => [(1, .pointer (some ⟨bt, 0, none⟩)), (2, .pointer (some ⟨bf, 0, none⟩)), (3, .pointer (some ⟨bo, 0, none⟩)), (4, .pointer (some ⟨g4, 0, none⟩)), (13, .slice A x.2.length c), (14, .int .i64 x.2.length), (15, .int .i64 j)]) (fun (q : Nat × Nat × τ) => match q with | (j, m, t1) => [bF, dfr D, Γ t1]) (fun (q : Nat × Nat × τ) => match q with | (j, m, t1) => [sl A 4 EE x.2, row g4 0 [.func (.yield l) #[] #[]], row bf 0 [.int .u16 f.v, .int .u32 f.b, .int .u64 f.s], row bo 0 [.int .u16 t.v, .int .u32 t.b, .int .u64 t.s], blk bt [.pointer (some ⟨tg, 0, none⟩)] 42, blk bf [.int .u16 f.v, .int .u32 f.b, .int .u64 f.s] 29, blk bo [.int .u16 t.v, .int .u32 t.b, .int .u64 t.s] 29, blk tg [rootV a, .int .i64 n] 55, stF a]) (fun (q : Nat × Nat × τ) => match q with | (j, m, t1) => x.2.length - j) (0, m, t1) rfl ⟨hi1, Nat.zero_le _, by rw [List.take_zero, List.append_nil]; exact hi2, by rw [List.take_zero, List.append_nil]; exact hi3⟩ fS sA sS ?_
    rintro ⟨j, m, t1⟩ hI
    replace hI : (Iv m t1 ∧ j ≤ x.2.length ∧ m = (win f t (rows (ys.take p) ++ x.2.take j)).length ∧ ∀ e ∈ rows (ys.take p) ++ x.2.take j, ¬ klt t e.k) := hI
    change GK _ _ [(1, .pointer (some ⟨bt, 0, none⟩)), (2, .pointer (some ⟨bf, 0, none⟩)), (3, .pointer (some ⟨bo, 0, none⟩)), (4, .pointer (some ⟨g4, 0, none⟩)), (13, .slice A x.2.length c), (14, .int .i64 x.2.length), (15, .int .i64 j)] [bF, dfr D, Γ t1] [sl A 4 EE x.2, row g4 0 [.func (.yield l) #[] #[]], row bf 0 [.int .u16 f.v, .int .u32 f.b, .int .u64 f.s], row bo 0 [.int .u16 t.v, .int .u32 t.b, .int .u64 t.s], blk bt [.pointer (some ⟨tg, 0, none⟩)] 42, blk bf [.int .u16 f.v, .int .u32 f.b, .int .u64 f.s] 29, blk bo [.int .u16 t.v, .int .u32 t.b, .int .u64 t.s] 29, blk tg [rootV a, .int .i64 n] 55, stF a]
    obtain ⟨hj1, hj2, hj3, hj4⟩ := hI
    by_cases hlt : j < x.2.length
    · obtain ⟨e, he⟩ : ∃ e, x.2[j]? = some e := ⟨x.2[j], List.getElem?_eq_getElem hlt⟩
      obtain ⟨S, hS⟩ := rows_at hx he
      have ht1 : rows (ys.take p) ++ x.2.take (j + 1) = (rows (ys.take p) ++ x.2.take j) ++ [e] := by
        obtain ⟨h1, h2⟩ := List.getElem?_eq_some_iff.1 he
        rw [List.take_succ_eq_append_getElem h1, h2, List.append_assoc]
      refine gk_elem (enc := EE) (L := x.2) j mE hlt (by decide) (fun b1 o1 y1 eA hy1 => ?_)
      subst eA
      obtain rfl : e = y1 := by rw [he] at hy1; exact Option.some.inj hy1
      (repeat' (first | (refine gG ?_; try intro _) | ((first | refine g_split rfl rfl tE (fun _ => ?_) (fun _ => ?_) | refine gk_cond rfl rfl tE (fun _ => ?_) (fun _ => ?_)) <;> (try first | (exfalso; omega; done) | (rename_i hx; exact absurd rfl hx) | (rename_i hx; cases hx; done)))))
      refine g_mv rfl ?_; refine mv_call_bel (fun w hk => kless_any t e.k w) rfl rfl rfl rfl rfl (by kernel_rfl) ?_
      (repeat (refine gG ?_; try intro _))
      refine gk_cond rfl rfl (tells_tB _) (fun hto => ?_) (fun hto => ?_)
      · (repeat (refine gG ?_; try intro _))
        refine gk_leave hRc t1 rfl ⟨rfl, .inl (by rw [win_stop hS hu hto, ← hj3]; exact hj1)⟩ [Γ t1] rfl hbF sA
      · have hno : ∀ e' ∈ rows (ys.take p) ++ x.2.take (j + 1), ¬ klt t e'.k := fun e' he' => by
          rw [ht1] at he'
          rcases List.mem_append.1 he' with h1 | h1
          · exact hj4 e' h1
          · obtain rfl := List.mem_singleton.1 h1
            exact hto
        (repeat (refine gG ?_; try intro _))
        refine g_mv rfl ?_; refine mv_call_bel (fun w hk => kless_any e.k f w) rfl rfl rfl rfl rfl (by kernel_rfl) ?_
        (repeat (refine gG ?_; try intro _))
        refine g_split rfl rfl tE (fun hfr => ?_) (fun hfr => ?_)
        · (repeat (refine gG ?_; try intro _))
          have hfr' : ¬ klt e.k f := by first | exact hfr | simpa using hfr
          refine g_yield Γ t1 (fun b t2 => (b = true → Iv (m + 1) t2) ∧ (b = false → Dn t2)) rfl rfl rfl rfl rfl rfl (fun w hk => hY m e t1 w (by rw [hj3]; exact win_next hS hfr' hto) hj1 ((hup w _ _ hk).outM (fun b hb => finE_in b hb) mE)) uD (fun b t2 hJ => ?_)
          cases b with
          | true =>
            (repeat (refine gG ?_; try intro _))
            refine gk_again_sel rfl (j + 1, m + 1, t2) ⟨hJ.1 rfl, hlt, by rw [ht1, win_app, win_one hfr' hto, List.length_append, ← hj3]; rfl, hno⟩ (by dsimp only; omega) fS sA sS
          | false =>
            (repeat (refine gG ?_; try intro _))
            refine gk_leave hRc t2 rfl ⟨rfl, .inr (hJ.2 rfl)⟩ [Γ t2] rfl hbF sA
        · have hfr' : klt e.k f := by first | exact hfr | (by_cases h : klt e.k f; exact h; exact absurd h hfr)
          (repeat (refine gG ?_; try intro _))
          refine gk_again_sel rfl (j + 1, m, t1) ⟨hj1, hlt, by rw [ht1, win_app, win_none (.inl hfr'), List.append_nil]; exact hj3, hno⟩ (by dsimp only; omega) fS sA sS
    · have hjl : j = x.2.length := by omega
      subst hjl
      rw [List.take_length, ← rows_take hx] at hj3 hj4
      (repeat' (first | (refine gG ?_; try intro _) | ((first | refine g_split rfl rfl tE (fun _ => ?_) (fun _ => ?_) | refine gk_cond rfl rfl tE (fun _ => ?_) (fun _ => ?_)) <;> (try first | (exfalso; omega; done) | (rename_i hx; exact absurd rfl hx) | (rename_i hx; cases hx; done)))))
      refine gk_round hRc (m, t1) rfl ⟨hj1, hj3, hj4⟩ [Γ t1] rfl hbF sA
  · obtain ⟨m, t1⟩ := s
    dsimp only at hi
    obtain ⟨hi1, hi2, hi3⟩ := hi
    rw [List.take_length] at hi2
    subst hi2
    change GK _ _ _ [dfr D, Γ t1] _
    (repeat (refine gG ?_; try intro _))
    refine gk_finM hT (.cons (by repeat (first | with_reducible exact Sel.here | with_reducible apply Sel.there)) .nil) rfl rfl .nil (fun w' hk => ?_)
    exact ⟨⟨_, rfl⟩, t1, hk.outM (fun b hb => finE_in b hb) mE, .inl hi1⟩
  · obtain ⟨rfl, hy⟩ := hy
    change GK _ _ _ [dfr D, Γ y] _
    refine gk_retM hT (.cons (by repeat (first | with_reducible exact Sel.here | with_reducible apply Sel.there)) .nil) rfl rfl .nil (fun w' hk => ?_)
    exact ⟨⟨_, rfl⟩, y, hk.outM (fun b hb => finE_in b hb) mE, hy⟩
end Go.Proofs.YtaghmffgoomebaaGreat.Wk
namespace Go.Proofs.YtaghmffgoomebaaGreat.Wk
open Go.RowKit Mem Nd Gx
set_option linter.unusedVariables false
set_option linter.unusedSimpArgs false
set_option maxRecDepth 100000
set_option maxHeartbeats 1000000
theorem rds_of {w : World} : ∀ {l : List Fact}, (∀ φ, φ ∈ l → Rd1 w φ) → Rds w l
  | [], _ => .nil
  | _ :: _, h => .cons (h _ (.head _)) (rds_of fun φ hφ => h φ (.tail _ hφ))
theorem Kn.rds {E : List Nat} {w0 w : World} {O R l : List Fact} (h : Kn E w0 w O R) (hl : l ⊆ R) : Rds w l := rds_of fun φ hφ => h.rR (hl hφ)
theorem list_any (gf : Nat) (caps : List Value) (xs : List EntD) (RA : List Fact) (w : World) (hok : callable Tryz.prog gf = true) (hB : Rds w RA) (hit : ∀ w', Rds w' RA → IterOk Tryz.prog gf caps (fun e : EntD => [e.val]) xs RA w') (h9 : xs.length ≤ 10000) :
    Calls Tryz.prog 113 [.func (.func gf) #[] caps.toArray].toArray w (Ret (fun _ : Value => True) (fun v => v) (fun v => [own 0 31 4 v EE xs]) w) := by
  refine g_enter0 T [] [] RA Tryz.func113 rfl Tryz.ntmps113 rfl hB.kn ?_
  (repeat (refine gG ?_; try intro _))
  rename_i g3
  refine gk_own 0 31 4 EE ?_
  refine gk_range (σ := Value × List EntD) (σx := Unit) (α := EntD) (enc := fun e : EntD => [e.val]) (xs := xs) (RA := RA) (pl := [6]) (gf := gf) (caps := caps) (fun q s => s.2 = xs.take q) (fun s => [blk g3 [s.1] 22, own 0 31 4 s.1 EE s.2]) (fun _ _ => False) (fun _ _ => []) (.slice none 0 0, []) [] rfl rfl hok rfl (fun _ => rfl) (fun w hk => hit w (Kn.rds hk (List.Subset.refl _))) (List.Subset.refl _) rfl sA (fun L q x s w hX hRc hI hOO hOut hOX hx hi hup => ?_) (fun D s hi => ?_) (fun D c y h => h.elim)
  · obtain ⟨X', l, D, rc, Inv', OO', Out', OX'⟩ := L
    dsimp only at hX hI hOO hOut hOX
    subst hX hI hOO hOut hOX
    obtain ⟨v, M⟩ := s
    dsimp only at hi
    subst hi
    change GK _ _ _ [recF l (rc .ready none), dfr D, blk g3 [v] 22, own 0 31 4 v EE (xs.take q)] _
    (repeat (refine gG ?_; try intro _))
    refine gk_begin rfl (by repeat (first | with_reducible exact Sel.here | with_reducible apply Sel.there)) (hRc.st _ _) (fun bF hbF => ?_)
    (repeat (refine gG ?_; try intro _))
    refine g_mv rfl (mv_append (L := xs.take q) rfl [x] rfl rfl rfl rfl elt_E uD (src_blk mE rfl) rfl oneE (by have := List.length_take_le' q xs; simp only [maxLen, List.length_cons, List.length_nil]; omega) (by have := List.length_take_le' q xs; simp only [List.length_cons, List.length_nil]; omega) (Nat.zero_le _) (fun v1 => ?_))
    refine g_ownv v1 mE (fun A1 c1 hv1 _ _ _ => ?_)
    subst hv1
    (repeat (refine gG ?_; try intro _))
    refine gk_round hRc (.slice A1 (xs.take q ++ [x]).length c1, xs.take q ++ [x]) rfl (by obtain ⟨h1, h2⟩ := List.getElem?_eq_some_iff.1 hx; show xs.take q ++ [x] = xs.take (q + 1); rw [List.take_succ_eq_append_getElem h1, h2]) [blk g3 [.slice A1 (xs.take q ++ [x]).length c1] 22, own 0 31 4 (.slice A1 (xs.take q ++ [x]).length c1) EE (xs.take q ++ [x])] rfl hbF sA
  · obtain ⟨v, M⟩ := s
    dsimp only at hi
    subst hi
    change GK _ _ _ [dfr D, blk g3 [v] 22, own 0 31 4 v EE (xs.take xs.length)] _
    (repeat (refine gG ?_; try intro _))
    rw [List.take_length]
    refine gk_retM hT (.cons (by repeat (first | with_reducible exact Sel.here | with_reducible apply Sel.there)) .nil) rfl rfl (.tmp rfl .nil) (fun w' hk => ?_)
    exact Ret.mk v trivial rfl hk sA
end Go.Proofs.YtaghmffgoomebaaGreat.Wk
namespace Go.Proofs.YtaghmffgoomebaaGreat.Wk
open Go.RowKit Mem Nd Gx Sk Tw
open Tr hiding T row
set_option linter.unusedVariables false
set_option linter.unusedSimpArgs false
set_option maxRecDepth 100000
set_option maxHeartbeats 1000000
theorem win_le (f t : KeyD) (l : List EntD) : (win f t l).length ≤ l.length := List.length_filter_le ..
def maxK : KeyD := ⟨65535, 4294967295, 18446744073709551615⟩
theorem end_any (w : World) : Calls Tryz.prog 115 #[] w fun e w' => e = .returned (.agg #[.int .u16 65535, .int .u32 4294967295, .int .u64 18446744073709551615]) ∧ Below w.heap.size w w' := by
  refine g_enter0 T [] [] [] Tryz.func115 rfl Tryz.ntmps115 rfl (Kn.start _) ?_
  (repeat (refine gG ?_; try intro _))
  refine gk_ret hT rfl rfl (.cell rfl mE rfl rfl .nil) (fun w' hk => ?_)
  exact ⟨rfl, hk.toBelow⟩
theorem all_any (a : Option AT) (tg : Nat) (n : Int) (f t : KeyD) (ys : List (Tr.T 0)) (w : World) (ef : f = ⟨0, 0, 0⟩) (et : t = maxK) (hl : LvO a f ys) (hu : UpTo t (rows ys)) (h9 : (rows ys).length ≤ 10000) (hB : Rd1 w (blk tg [rootV a, .int .i64 n] 55)) (hF : Rd1 w (stF a)) :
    Calls Tryz.prog 85 [.pointer (some ⟨tg, 0, none⟩)].toArray w (Ret (fun _ : Value => True) (fun v => v) (fun v => [own 0 31 4 v EE (win f t (rows ys))]) w) := by
  refine g_enter0 T [] [] [blk tg [rootV a, .int .i64 n] 55, stF a] Tryz.func85 rfl Tryz.ntmps85 rfl (Rds.cons hB (.cons hF .nil)).kn ?_
  (repeat' (first | (refine gG ?_; try intro _) | (refine g_mv rfl ?_; first | refine mv_call_bel (fun w hk => end_any w) rfl rfl rfl rfl rfl (by kernel_rfl) ?_) | ((first | refine g_split rfl rfl tE (fun _ => ?_) (fun _ => ?_) | refine gk_cond rfl rfl tE (fun _ => ?_) (fun _ => ?_)) <;> (try first | (exfalso; omega; done) | (rename_i hx; exact absurd rfl hx) | (rename_i hx; cases hx; done)))))
  refine g_mv rfl ?_; refine mv_call_rt (fun w hk => range_any tg ⟨0, 0, 0⟩ maxK w) rfl rfl rfl rfl rfl (by kernel_rfl) (fun _ => rfl) (fun s _ => ?_)
  rw [← ef, ← et]
  obtain ⟨ct, cf, co⟩ := s
  dsimp only
  refine g_share (φ := blk co [.int .u16 t.v, .int .u32 t.b, .int .u64 t.s] 29) (by repeat (first | with_reducible exact Sel.here | with_reducible apply Sel.there)) ?_
  refine g_share (φ := blk cf [.int .u16 f.v, .int .u32 f.b, .int .u64 f.s] 29) (by repeat (first | with_reducible exact Sel.here | with_reducible apply Sel.there)) ?_
  refine g_share (φ := blk ct [.pointer (some ⟨tg, 0, none⟩)] 42) (by repeat (first | with_reducible exact Sel.here | with_reducible apply Sel.there)) ?_
  refine g_mv rfl ?_; refine mv_call_rt (fun w hk => list_any 130 [.pointer (some ⟨ct, 0, none⟩), .pointer (some ⟨cf, 0, none⟩), .pointer (some ⟨co, 0, none⟩)] (win f t (rows ys)) (rgR a f t tg ct cf co n) w (by kernel_rfl) (.cons (hk.rR mE) (.cons (hk.rR mE) (.cons (hk.rR mE) (.cons (hk.rR mE) (.cons (hk.rR mE) .nil))))) (fun w' hB' => range_iter a f t tg ct cf co n ys w' hl hu hB') (Nat.le_trans (win_le f t _) h9)) rfl rfl rfl rfl rfl (by kernel_rfl) (fun _ => rfl) (fun v _ => ?_)
  (repeat (refine gG ?_; try intro _))
  refine gk_ret hT rfl rfl (.tmp rfl .nil) (fun w' hk => ?_)
  exact Ret.mk v trivial rfl hk sA
end Go.Proofs.YtaghmffgoomebaaGreat.Wk
