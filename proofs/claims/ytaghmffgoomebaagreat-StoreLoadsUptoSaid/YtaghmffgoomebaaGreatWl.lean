/- walk.leaves: the leaves of a tree from a key on, as an iterator. -/
import Derived.Test.YtaghmffgoomebaaGreatWs
import Derived.Test.YtaghmffgoomebaaGreatGxW
namespace Go.Proofs.YtaghmffgoomebaaGreat.Wk
open Go.RowKit Mem Nd Gx Sk Tw
open Tr hiding T row
set_option linter.unusedVariables false
set_option linter.unusedSimpArgs false
set_option maxRecDepth 100000
set_option maxHeartbeats 1000000
/-- What the iterator reads. -/
def lvR (a0 : AT) (k : KeyD) (tg bt bk : Nat) (n : Int) : List Fact := [blk bt [.pointer (some ⟨tg, 0, none⟩)] 42, blk bk [.int .u16 k.v, .int .u32 k.b, .int .u64 k.s] 29, blk tg [.pointer (some ⟨(nd a0.h a0.t).g, 0, none⟩), .int .i64 n] 55, stF (some a0)]
theorem leaves_iter (a0 : AT) (k : KeyD) (tg bt bk : Nat) (n : Int) (ys : List (Tr.T 0)) (w1 : World) (ok : InT a0 a0) (h9 : a0.h ≤ 12) (hLF : LF a0.h a0.t k ys) (hB : Rds w1 (lvR a0 k tg bt bk n)) :
    IterOk Tryz.prog 139 [.pointer (some ⟨bt, 0, none⟩), .pointer (some ⟨bk, 0, none⟩)] (fun t : Tr.T 0 => [.pointer (some ⟨(nd 0 t).g, 0, none⟩)]) ys (lvR a0 k tg bt bk n) w1 := by
  intro l τ Γ Inv Dn t0 h0 hΓ hdis hY
  unfold lvR at hB hdis
  refine g_enter0 T (finE (Γ t0) w1) [Γ t0] [blk bt [.pointer (some ⟨tg, 0, none⟩)] 42, blk bk [.int .u16 k.v, .int .u32 k.b, .int .u64 k.s] 29, blk tg [.pointer (some ⟨(nd a0.h a0.t).g, 0, none⟩), .int .i64 n] 55, stF (some a0)] Tryz.func139 rfl Tryz.ntmps139 rfl (Kn.startM hΓ (fun b hb => (finE_mem hΓ.2 b).2 hb) (fun ψ hψ => ⟨hB.mem hψ, fun b h1 => hdis ψ hψ b h1⟩)) ?_
  refine gk_rowR (g := bt) mE ?_
  refine gk_rowR (g := bk) mE ?_
  (repeat (refine gG ?_; try intro _))
  refine g_mv rfl ?_; refine mv_call_rt (fun w hk => Ws.snew_any w) rfl rfl rfl rfl rfl (by kernel_rfl) (fun _ => rfl) (fun sg _ => ?_)
  (repeat' (first | (refine gG ?_; try intro _) | (refine g_mv rfl ?_; first | refine mv_call_bel (fun w hk => troot_any tg (.pointer (some ⟨(nd a0.h a0.t).g, 0, none⟩)) n w (hk.rR mE)) rfl rfl rfl rfl rfl (by kernel_rfl) ?_) | ((first | refine g_split rfl rfl tE (fun _ => ?_) (fun _ => ?_) | refine gk_cond rfl rfl tE (fun _ => ?_) (fun _ => ?_)) <;> (try first | (exfalso; omega; done) | (rename_i hx; exact absurd rfl hx) | (rename_i hx; cases hx; done)))))
  refine gk_der [stF (some a0)] ok.der sS ?_
  refine gk_loop_sel (fun (q : AT × (List (AT × Nat)) × (List (Tr.T 0))) => match q with | (a, fs, zs) => (InT a0 a ∧ StkOk a0 fs a.h ∧ LF a.h a.t k zs ∧ ys = zs ++ rest fs)) (fun (q : AT × (List (AT × Nat)) × (List (Tr.T 0))) => match q with | (a, fs, zs) => [(0, .func (.yield l) #[] #[]), (1, .pointer (some ⟨bt, 0, none⟩)), (2, .pointer (some ⟨bk, 0, none⟩)), (4, .pointer (some ⟨sg, 0, none⟩)), (5, .pointer (some ⟨(nd a.h a.t).g, 0, none⟩))]) (fun (q : AT × (List (AT × Nat)) × (List (Tr.T 0))) => match q with | (a, fs, zs) => [blk sg (stC (stk fs)) 251, Γ t0]) (fun (q : AT × (List (AT × Nat)) × (List (Tr.T 0))) => match q with | (a, fs, zs) => [treeF a.h a.t, row bk 0 [.int .u16 k.v, .int .u32 k.b, .int .u64 k.s], row bt 0 [.pointer (some ⟨tg, 0, none⟩)], blk bt [.pointer (some ⟨tg, 0, none⟩)] 42, blk bk [.int .u16 k.v, .int .u32 k.b, .int .u64 k.s] 29, blk tg [.pointer (some ⟨(nd a0.h a0.t).g, 0, none⟩), .int .i64 n] 55, stF (some a0)]) (fun (q : AT × (List (AT × Nat)) × (List (Tr.T 0))) => match q with | (a, fs, zs) => a.h) (a0, [], ys) rfl ⟨ok, .nil, hLF, by simp [rest]⟩ (by repeat (first | exact trivial | refine ⟨rfl, ?_⟩)) sA sS ?_
  rintro ⟨a, fs, zs⟩ hI
  replace hI : (InT a0 a ∧ StkOk a0 fs a.h ∧ LF a.h a.t k zs ∧ ys = zs ++ rest fs) := hI
  change GK _ _ [(0, .func (.yield l) #[] #[]), (1, .pointer (some ⟨bt, 0, none⟩)), (2, .pointer (some ⟨bk, 0, none⟩)), (4, .pointer (some ⟨sg, 0, none⟩)), (5, .pointer (some ⟨(nd a.h a.t).g, 0, none⟩))] [blk sg (stC (stk fs)) 251, Γ t0] [treeF a.h a.t, row bk 0 [.int .u16 k.v, .int .u32 k.b, .int .u64 k.s], row bt 0 [.pointer (some ⟨tg, 0, none⟩)], blk bt [.pointer (some ⟨tg, 0, none⟩)] 42, blk bk [.int .u16 k.v, .int .u32 k.b, .int .u64 k.s] 29, blk tg [.pointer (some ⟨(nd a0.h a0.t).g, 0, none⟩), .int .i64 n] 55, stF (some a0)]
  obtain ⟨hin, hst, hlf, hys⟩ := hI
  have hll := hst.len
  obtain ⟨h, c⟩ := a
  dsimp only at hin hst hlf hll
  have hok : Tr.Ok h c := hin.ok
  refine gk_tnd (t := c) mE ?_
  refine gk_nB (d := nd h c) mE ?_
  cases h with
  | succ h =>
    rw [show (nd (h + 1) c).leaf = false from hok.1.leaf]
    (repeat (refine gG ?_; try intro _))
    obtain ⟨q0, kd, zs', hq0, hkd, hlf', hzs⟩ := hlf
    have hkl : (nd (h + 1) c).Ks.length ≤ 6 := by rw [← ln_eq hok]; exact root_ln hin.rt
    have hc6 : c.2.length ≤ 6 := hin.rt.2.1
    refine g_mv rfl ?_; refine mv_call_rt (fun w hk => kid_any (nd (h + 1) c) k w (nd_ok hok) (by omega) hin.ks.nd (hk.rR mE)) rfl rfl rfl rfl rfl (by kernel_rfl) (fun _ => rfl) (fun p hq => ?_)
    rw [kidIx_max, keys_inner hok]
    rw [keys_inner hok] at hq
    obtain rfl : p = q0 := pos_unique hq hq0
    change G _ _ _ _ ((23, .int .i64 ((kidIx ((c.2.map (ents h)).map fstK) k p : Nat) : Int)) :: _) _ _
    obtain ⟨i0, hi⟩ : ∃ i0, i0 = kidIx ((c.2.map (ents h)).map fstK) k p := ⟨_, rfl⟩
    rw [← hi] at hkd hzs ⊢
    have hi0 := (List.getElem?_eq_some_iff.1 hkd).1
    (repeat (refine gG ?_; try intro _))
    refine g_mv rfl ?_; refine mv_call_w (fun w hk => Ws.spush_any sg (stk fs) ((nd (h + 1) c).g, i0 + 1) w (by rw [stk_len]; omega) (hk.pO (blk sg (stC (stk fs)) 251) mE)) rfl rfl rfl rfl rfl (by kernel_rfl) (by intro _; first | ((repeat (first | with_reducible exact Upd.here _ | with_reducible apply Upd.there)); done) | ((repeat (first | exact Upd.here _ | apply Upd.there)); done) | fail) (fun ψ hψ => by first | (cases hψ; done) | (obtain rfl := List.mem_singleton.1 hψ; exact mE)) (fun _ => rfl) (fun _ => rfl) (fun s hs => ?_)
    rw [show stk fs ++ [((nd (h + 1) c).g, i0 + 1)] = stk ((⟨h + 1, c⟩, i0 + 1) :: fs) from (stk_cons (⟨h + 1, c⟩, i0 + 1) fs).symm]
    (repeat (refine gG ?_; try intro _))
    refine g_lessR (sl (nd (h + 1) c).C.A 1 PE (nd (h + 1) c).Cs) (nodeF (nd (h + 1) c)) mE (fun w h => h _ fs_C) (nodeF_S fs_C) ?_
    have hCs : (nd (h + 1) c).Cs = (c.2.map (nd h)).map NodeD.g := hok.1.Cs
    have hCn : (nd (h + 1) c).C.n = c.2.length := by rw [(nd_ok hok).C.n, hCs, List.length_map, List.length_map]
    refine g_elem (enc := PE) (L := (nd (h + 1) c).Cs) i0 mE (by rw [hCs, List.length_map, List.length_map]; exact hi0) (by decide) (fun b0 o0 y0 eA hy0 => ?_)
    obtain rfl : (nd h kd).g = y0 := by
      rw [hCs, List.getElem?_map, List.getElem?_map, hkd] at hy0
      exact Option.some.inj hy0
    refine g_say 33 (.slice (some ⟨b0, o0, none⟩) (nd (h + 1) c).C.n (nd (h + 1) c).C.c) rfl (by rw [← eA]; rfl) ?_
    (repeat (refine gG ?_; try intro _))
    refine gk_tkid (t := c) (c := kd) mE (List.mem_of_getElem? hkd) ?_
    refine gk_again_sel rfl (⟨h, kd⟩, (⟨h + 1, c⟩, i0 + 1) :: fs, zs') ⟨hin.kid (List.mem_of_getElem? hkd), .cons hst hin, hlf', by rw [hys, hzs, rest_cons, List.append_assoc]⟩ (by dsimp only; omega) (by repeat (first | exact trivial | refine ⟨rfl, ?_⟩)) sA sS
  | zero =>
    rw [show (nd 0 c).leaf = true from hok.1.leaf]
    (repeat (refine gG ?_; try intro _))
    obtain rfl : zs = [c] := hlf
    refine gk_loop_sel (fun (q : (Option (Tr.T 0)) × (List (AT × Nat)) × Nat × τ) => match q with | (cur, fl, kk, t) => (Inv kk t ∧ At a0 ys cur fl kk)) (fun (q : (Option (Tr.T 0)) × (List (AT × Nat)) × Nat × τ) => match q with | (cur, fl, kk, t) => [(0, .func (.yield l) #[] #[]), (4, .pointer (some ⟨sg, 0, none⟩)), (5, pO cur)]) (fun (q : (Option (Tr.T 0)) × (List (AT × Nat)) × Nat × τ) => match q with | (cur, fl, kk, t) => [blk sg (stC (stk fl)) 251, Γ t]) (fun (q : (Option (Tr.T 0)) × (List (AT × Nat)) × Nat × τ) => match q with | (cur, fl, kk, t) => [blk bt [.pointer (some ⟨tg, 0, none⟩)] 42, blk bk [.int .u16 k.v, .int .u32 k.b, .int .u64 k.s] 29, blk tg [.pointer (some ⟨(nd a0.h a0.t).g, 0, none⟩), .int .i64 n] 55, stF (some a0)]) (fun (q : (Option (Tr.T 0)) × (List (AT × Nat)) × Nat × τ) => match q with | (cur, fl, kk, t) => ys.length - kk) (some c, fs, 0, t0) rfl ⟨h0, ⟨Nat.zero_le _, hys, fun t ht => (by cases ht; exact ⟨hst, hin⟩), fun h => (by cases h)⟩⟩ (by repeat (first | exact trivial | refine ⟨rfl, ?_⟩)) sA sS ?_
    rintro ⟨cur, fl, kk, t⟩ hI
    replace hI : (Inv kk t ∧ At a0 ys cur fl kk) := hI
    change GK _ _ [(0, .func (.yield l) #[] #[]), (4, .pointer (some ⟨sg, 0, none⟩)), (5, pO cur)] [blk sg (stC (stk fl)) 251, Γ t] [blk bt [.pointer (some ⟨tg, 0, none⟩)] 42, blk bk [.int .u16 k.v, .int .u32 k.b, .int .u64 k.s] 29, blk tg [.pointer (some ⟨(nd a0.h a0.t).g, 0, none⟩), .int .i64 n] 55, stF (some a0)]
    obtain ⟨hi2, hat⟩ := hI
    cases cur with
    | none =>
      obtain rfl := hat.done
      change GK _ _ [(0, .func (.yield l) #[] #[]), (4, .pointer (some ⟨sg, 0, none⟩)), (5, .pointer none)] _ _
      (repeat (refine gG ?_; try intro _))
      refine gk_fin hT rfl rfl .nil (fun w' hk => ?_)
      exact ⟨⟨_, rfl⟩, t, hk.outM (fun b hb => finE_in b hb) mE, .inl hi2⟩
    | some lf =>
      obtain ⟨hy1, hy2, hy3⟩ := hat.next
      obtain ⟨hst2, hin2⟩ := hat.st lf rfl
      change GK _ _ [(0, .func (.yield l) #[] #[]), (4, .pointer (some ⟨sg, 0, none⟩)), (5, .pointer (some ⟨(nd 0 lf).g, 0, none⟩))] _ _
      (repeat (refine gG ?_; try intro _))
      refine g_yield Γ t (fun b t' => (b = true → Inv (kk + 1) t') ∧ (b = false → Dn t')) rfl rfl rfl rfl rfl rfl (fun w hk => hY kk lf t w hy1 hi2 (hk.outM (fun b hb => finE_in b hb) mE)) (by intro _; first | ((repeat (first | with_reducible exact Upd.here _ | with_reducible apply Upd.there)); done) | ((repeat (first | exact Upd.here _ | apply Upd.there)); done) | fail) (fun b t2 hJ => ?_)
      cases b with
      | false =>
        (repeat (refine gG ?_; try intro _))
        refine gk_fin hT rfl rfl .nil (fun w' hk => ?_)
        exact ⟨⟨_, rfl⟩, t2, hk.outM (fun b hb => finE_in b hb) mE, .inr (hJ.2 rfl)⟩
      | true =>
        have hi3 := hJ.1 rfl
        have hl2 := hst2.len
        (repeat (refine gG ?_; try intro _))
        refine g_mv rfl ?_; refine mv_call_w (fun w hk => Ws.spop_any sg (stk fl) w (by rw [stk_len]; omega) (hk.pO (blk sg (stC (stk fl)) 251) mE)) rfl rfl rfl rfl rfl (by kernel_rfl) (by intro _; first | ((repeat (first | with_reducible exact Upd.here _ | with_reducible apply Upd.there)); done) | ((repeat (first | exact Upd.here _ | apply Upd.there)); done) | fail) (fun ψ hψ => by first | (cases hψ; done) | (obtain rfl := List.mem_singleton.1 hψ; exact mE)) (fun _ => rfl) (fun _ => rfl) (fun s hs => ?_)
        (repeat (refine gG ?_; try intro _))
        rename_i g7
        refine g_mv rfl (mv_store hT rfl rfl rfl rfl rfl (p_one (stk fl)) sO rfl ?_)
        (repeat (refine gG ?_; try intro _))
        refine gk_loop_sel (fun (q : (List (AT × Nat)) × Nat) => match q with | (pl, gx) => ((∃ h, StkOk a0 pl h) ∧ rest pl = ys.drop (kk + 1))) (fun (q : (List (AT × Nat)) × Nat) => match q with | (pl, gx) => [(0, .func (.yield l) #[] #[]), (4, .pointer (some ⟨sg, 0, none⟩)), (5, .pointer none), (7, .pointer (some ⟨gx, 0, none⟩)), (8, .bool (!(stk pl).isEmpty))]) (fun (q : (List (AT × Nat)) × Nat) => match q with | (pl, gx) => [blk gx [pA (stk pl), pI (stk pl)] 244, blk sg (stC (stk pl).dropLast) 251, Γ t2]) (fun (q : (List (AT × Nat)) × Nat) => match q with | (pl, gx) => [blk bt [.pointer (some ⟨tg, 0, none⟩)] 42, blk bk [.int .u16 k.v, .int .u32 k.b, .int .u64 k.s] 29, blk tg [.pointer (some ⟨(nd a0.h a0.t).g, 0, none⟩), .int .i64 n] 55, stF (some a0)]) (fun (q : (List (AT × Nat)) × Nat) => match q with | (pl, gx) => pl.length) (fl, g7) rfl ⟨⟨0, hst2⟩, hy3.symm⟩ (by repeat (first | exact trivial | refine ⟨rfl, ?_⟩)) sA sS ?_
        rintro ⟨pl, gx⟩ hI
        replace hI : ((∃ h, StkOk a0 pl h) ∧ rest pl = ys.drop (kk + 1)) := hI
        change GK _ _ [(0, .func (.yield l) #[] #[]), (4, .pointer (some ⟨sg, 0, none⟩)), (5, .pointer none), (7, .pointer (some ⟨gx, 0, none⟩)), (8, .bool (!(stk pl).isEmpty))] [blk gx [pA (stk pl), pI (stk pl)] 244, blk sg (stC (stk pl).dropLast) 251, Γ t2] [blk bt [.pointer (some ⟨tg, 0, none⟩)] 42, blk bk [.int .u16 k.v, .int .u32 k.b, .int .u64 k.s] 29, blk tg [.pointer (some ⟨(nd a0.h a0.t).g, 0, none⟩), .int .i64 n] 55, stF (some a0)]
        obtain ⟨⟨h, hso⟩, hrest⟩ := hI
        cases pl with
        | nil =>
          change GK _ _ [(0, .func (.yield l) #[] #[]), (4, .pointer (some ⟨sg, 0, none⟩)), (5, .pointer none), (7, .pointer (some ⟨gx, 0, none⟩)), (8, .bool false)] [blk gx [.pointer none, .int .i64 0] 244, blk sg (stC []) 251, Γ t2] _
          (repeat (refine gG ?_; try intro _))
          refine gk_loop_sel (fun (u : Unit) => True) (fun (u : Unit) => [(0, .func (.yield l) #[] #[]), (4, .pointer (some ⟨sg, 0, none⟩)), (5, .pointer none)]) (fun (u : Unit) => [blk sg (stC []) 251, Γ t2]) (fun (u : Unit) => [blk bt [.pointer (some ⟨tg, 0, none⟩)] 42, blk bk [.int .u16 k.v, .int .u32 k.b, .int .u64 k.s] 29, blk tg [.pointer (some ⟨(nd a0.h a0.t).g, 0, none⟩), .int .i64 n] 55, stF (some a0)]) (fun (u : Unit) => 0) () rfl trivial (by repeat (first | exact trivial | refine ⟨rfl, ?_⟩)) sA sS ?_
          rintro u hI
          replace hI : True := hI
          change GK _ _ [(0, .func (.yield l) #[] #[]), (4, .pointer (some ⟨sg, 0, none⟩)), (5, .pointer none)] [blk sg (stC []) 251, Γ t2] [blk bt [.pointer (some ⟨tg, 0, none⟩)] 42, blk bk [.int .u16 k.v, .int .u32 k.b, .int .u64 k.s] 29, blk tg [.pointer (some ⟨(nd a0.h a0.t).g, 0, none⟩), .int .i64 n] 55, stF (some a0)]
          (repeat (refine gG ?_; try intro _))
          refine gk_again_sel rfl (none, [], kk + 1, t2) ⟨hi3, hy2, by rw [← hrest]; rfl, fun t h => (by cases h), fun _ => rfl⟩ (by dsimp only; omega) (by repeat (first | exact trivial | refine ⟨rfl, ?_⟩)) sA sS
        | cons x pl =>
          cases hso with
          | @cons _ tt i _ hs hi =>
          have hll := hs.len
          have hok : Tr.Ok (h + 1) tt := hi.ok
          have hc6 : tt.2.length ≤ 6 := hi.rt.2.1
          have hl : (nd (h + 1) tt).K.n = tt.2.length := by rw [(nd_ok hok).K.n, ← ln_eq hok]; rfl
          have hCs : (nd (h + 1) tt).Cs = (tt.2.map (nd h)).map NodeD.g := hok.1.Cs
          have hCn : (nd (h + 1) tt).C.n = tt.2.length := by rw [(nd_ok hok).C.n, hCs, List.length_map, List.length_map]
          rw [stk_cons, pA_snoc, pI_snoc, List.dropLast_concat, show (!(stk pl ++ [frV (⟨h + 1, tt⟩, i)]).isEmpty) = true by simp]
          change GK _ _ _ [blk gx [.pointer (some ⟨(nd (h + 1) tt).g, 0, none⟩), .int .i64 i] 244, blk sg (stC (stk pl)) 251, Γ t2] _
          (repeat (refine gG ?_; try intro _))
          refine gk_der [stF (some a0)] hi.der sS ?_
          refine gk_tnd (t := tt) mE ?_
          refine gk_nB (d := nd (h + 1) tt) mE ?_
          by_cases hlt : i < tt.2.length
          · obtain ⟨kd, hkd⟩ : ∃ kd, tt.2[i]? = some kd := ⟨tt.2[i], List.getElem?_eq_getElem hlt⟩
            have hkm := List.mem_of_getElem? hkd
            refine gk_any [0] (Cut _ (fun _ : Unit => [(0, .func (.yield l) #[] #[]), (4, .pointer (some ⟨sg, 0, none⟩)), (5, .pointer none), (7, .pointer (some ⟨gx, 0, none⟩)), (59, .bool true)]) (fun _ => [blk gx [.pointer (some ⟨(nd (h + 1) tt).g, 0, none⟩), .int .i64 i] 244, blk sg (stC (stk pl)) 251, Γ t2]) (fun _ => [row (nd (h + 1) tt).g 0 [.bool (nd (h + 1) tt).leaf, (nd (h + 1) tt).K.v, (nd (h + 1) tt).V.v, (nd (h + 1) tt).C.v, .int .u32 (nd (h + 1) tt).a], nodeF (nd (h + 1) tt), treeF (h + 1) tt, blk bt [.pointer (some ⟨tg, 0, none⟩)] 42, blk bk [.int .u16 k.v, .int .u32 k.b, .int .u64 k.s] 29, blk tg [.pointer (some ⟨(nd a0.h a0.t).g, 0, none⟩), .int .i64 n] 55, stF (some a0)])) rfl rfl (by kernel_rfl) ?_ (cut_k fun _ => ?_)
            · skip
              refine gb_take 0 rfl (by decide +kernel) rfl rfl (ys_ev (nw := true) hT rfl sI) sF ?_
              refine gb_take 1 rfl (by decide +kernel) rfl rfl (by first | exact ys_blk hT rfl rfl mE rfl rfl | exact ys_row hT rfl rfl mE rfl rfl | exact ys_row0 hT rfl rfl mE rfl rfl) sF ?_
              refine gb_take 2 rfl (by decide +kernel) rfl rfl (ys_ev (nw := true) hT rfl sI) sF ?_
              refine gb_take 3 rfl (by decide +kernel) rfl rfl (by first | exact ys_blk hT rfl rfl mE rfl rfl | exact ys_row hT rfl rfl mE rfl rfl | exact ys_row0 hT rfl rfl mE rfl rfl) sF ?_
              refine gb_only 4 (by decide +kernel) rfl rfl ?_
              refine mv_call_bel (fun w hk => nlen_any (nd (h + 1) tt).g [] (nd (h + 1) tt).leaf (nd (h + 1) tt).K (nd (h + 1) tt).V (nd (h + 1) tt).C (nd (h + 1) tt).a w (rd_nb (hk.rR (φ := nodeF (nd (h + 1) tt)) mE)).1) rfl rfl rfl rfl rfl (by kernel_rfl) ?_
              refine ⟨sF, ?_⟩
              refine gb_take 5 rfl (by decide +kernel) rfl rfl (ys_ev (nw := true) hT rfl sI) sF ?_
              try (refine gb_say 59 (.bool true) rfl (congrArg Value.bool (tB_true (by omega))) ?_)
              refine gb_nil (by decide +kernel) ?_
              exact ⟨(), (by repeat (first | exact trivial | refine ⟨rfl, ?_⟩)), sA, sS⟩
            · (repeat (refine gG ?_; try intro _))
              refine g_mv rfl ?_; refine mv_call_w (fun w hk => Ws.spush_any sg (stk pl) ((nd (h + 1) tt).g, i + 1) w (by rw [stk_len]; omega) (hk.pO (blk sg (stC (stk pl)) 251) mE)) rfl rfl rfl rfl rfl (by kernel_rfl) (by intro _; first | ((repeat (first | with_reducible exact Upd.here _ | with_reducible apply Upd.there)); done) | ((repeat (first | exact Upd.here _ | apply Upd.there)); done) | fail) (fun ψ hψ => by first | (cases hψ; done) | (obtain rfl := List.mem_singleton.1 hψ; exact mE)) (fun _ => rfl) (fun _ => rfl) (fun s hs2 => ?_)
              rw [show stk pl ++ [((nd (h + 1) tt).g, i + 1)] = stk ((⟨h + 1, tt⟩, i + 1) :: pl) from (stk_cons (⟨h + 1, tt⟩, i + 1) pl).symm]
              (repeat (refine gG ?_; try intro _))
              refine gk_lessR (sl (nd (h + 1) tt).C.A 1 PE (nd (h + 1) tt).Cs) (nodeF (nd (h + 1) tt)) mE (fun w h => h _ fs_C) (nodeF_S fs_C) ?_
              refine gk_elem (enc := PE) (L := (nd (h + 1) tt).Cs) i mE (by rw [hCs, List.length_map, List.length_map]; exact hlt) (by decide) (fun b0 o0 y0 eA hy0 => ?_)
              obtain rfl : (nd h kd).g = y0 := by
                rw [hCs, List.getElem?_map, List.getElem?_map, hkd] at hy0
                exact Option.some.inj hy0
              refine gk_any [0, 3, 5] (Cut _ (fun _ : Unit => [(0, .func (.yield l) #[] #[]), (4, .pointer (some ⟨sg, 0, none⟩)), (5, .pointer (some ⟨(nd h kd).g, 0, none⟩))]) (fun _ => [blk sg (stC (stk ((⟨h + 1, tt⟩, i + 1) :: pl))) 251, Γ t2]) (fun _ => [treeF (h + 1) tt, blk bt [.pointer (some ⟨tg, 0, none⟩)] 42, blk bk [.int .u16 k.v, .int .u32 k.b, .int .u64 k.s] 29, blk tg [.pointer (some ⟨(nd a0.h a0.t).g, 0, none⟩), .int .i64 n] 55, stF (some a0)])) rfl rfl (by kernel_rfl) ?_ (cut_k fun _ => ?_)
              · skip
                refine gb_take 0 rfl (by decide +kernel) rfl rfl (ys_ev (nw := true) hT rfl sI) sF ?_
                refine gb_take 1 rfl (by decide +kernel) rfl rfl (by first | exact ys_blk hT rfl rfl mE rfl rfl | exact ys_row hT rfl rfl mE rfl rfl | exact ys_row0 hT rfl rfl mE rfl rfl) sF ?_
                refine gb_take 2 rfl (by decide +kernel) rfl rfl (ys_ev (nw := true) hT rfl sI) sF ?_
                refine gb_take 3 rfl (by decide +kernel) rfl rfl (ys_ev (nw := true) hT rfl sI) sF ?_
                refine gb_take 4 rfl (by decide +kernel) rfl rfl (by first | exact ys_blk hT rfl rfl mE rfl rfl | exact ys_row hT rfl rfl mE rfl rfl | exact ys_row0 hT rfl rfl mE rfl rfl) sF ?_
                try (refine gb_say 72 (.slice (some ⟨b0, o0, none⟩) (nd (h + 1) tt).C.n (nd (h + 1) tt).C.c) rfl (by rw [← eA]; rfl) ?_)
                refine gb_take 5 rfl (by decide +kernel) rfl rfl (ys_ev (nw := true) hT rfl sI) sF ?_
                refine gb_take 6 rfl (by decide +kernel) rfl rfl (by first | exact ys_blk hT rfl rfl mE rfl rfl | exact ys_row hT rfl rfl mE rfl rfl | exact ys_row0 hT rfl rfl mE rfl rfl) sF ?_
                refine gb_take 7 rfl (by decide +kernel) rfl rfl (ys_ev (nw := true) hT rfl sI) sF ?_
                refine gb_take 8 rfl (by decide +kernel) rfl rfl (by first | exact ys_blk hT rfl rfl mE rfl rfl | exact ys_row hT rfl rfl mE rfl rfl | exact ys_row0 hT rfl rfl mE rfl rfl) sF ?_
                refine gb_take 9 rfl (by decide +kernel) rfl rfl (ys_ev (nw := true) hT rfl sI) sF ?_
                refine gb_nil (by decide +kernel) ?_
                exact ⟨(), (by repeat (first | exact trivial | refine ⟨rfl, ?_⟩)), sA, sS⟩
              · refine gk_tkid (t := tt) (c := kd) mE hkm ?_
                refine gk_loop_sel (fun (q : AT × (List (AT × Nat))) => match q with | (a, fs) => (InT a0 a ∧ StkOk a0 fs a.h ∧ lvs a.h a.t ++ rest fs = ys.drop (kk + 1))) (fun (q : AT × (List (AT × Nat))) => match q with | (a, fs) => [(0, .func (.yield l) #[] #[]), (4, .pointer (some ⟨sg, 0, none⟩)), (5, .pointer (some ⟨(nd a.h a.t).g, 0, none⟩))]) (fun (q : AT × (List (AT × Nat))) => match q with | (a, fs) => [blk sg (stC (stk fs)) 251, Γ t2]) (fun (q : AT × (List (AT × Nat))) => match q with | (a, fs) => [treeF a.h a.t, blk bt [.pointer (some ⟨tg, 0, none⟩)] 42, blk bk [.int .u16 k.v, .int .u32 k.b, .int .u64 k.s] 29, blk tg [.pointer (some ⟨(nd a0.h a0.t).g, 0, none⟩), .int .i64 n] 55, stF (some a0)]) (fun (q : AT × (List (AT × Nat))) => match q with | (a, fs) => a.h) (⟨h, kd⟩, (⟨h + 1, tt⟩, i + 1) :: pl) rfl ⟨hi.kid hkm, .cons hs hi, by rw [← hrest]; exact (rest_next pl hkd).symm⟩ (by repeat (first | exact trivial | refine ⟨rfl, ?_⟩)) sA sS ?_
                rintro ⟨a, fs⟩ hI
                replace hI : (InT a0 a ∧ StkOk a0 fs a.h ∧ lvs a.h a.t ++ rest fs = ys.drop (kk + 1)) := hI
                change GK _ _ [(0, .func (.yield l) #[] #[]), (4, .pointer (some ⟨sg, 0, none⟩)), (5, .pointer (some ⟨(nd a.h a.t).g, 0, none⟩))] [blk sg (stC (stk fs)) 251, Γ t2] [treeF a.h a.t, blk bt [.pointer (some ⟨tg, 0, none⟩)] 42, blk bk [.int .u16 k.v, .int .u32 k.b, .int .u64 k.s] 29, blk tg [.pointer (some ⟨(nd a0.h a0.t).g, 0, none⟩), .int .i64 n] 55, stF (some a0)]
                obtain ⟨hin4, hst4, hr4⟩ := hI
                obtain ⟨h4, c⟩ := a
                dsimp only at hin4 hst4 hr4
                have hl4 := hst4.len
                have hok4 : Tr.Ok h4 c := hin4.ok
                refine gk_tnd (t := c) mE ?_
                refine gk_nB (d := nd h4 c) mE ?_
                cases h4 with
                | zero =>
                  rw [show (nd 0 c).leaf = true from hok4.1.leaf]
                  (repeat (refine gG ?_; try intro _))
                  refine gk_again_sel rfl (some c, fs, kk + 1, t2) ⟨hi3, hy2, hr4.symm, fun t h => (by cases h; exact ⟨hst4, hin4⟩), fun h => (by cases h)⟩ (by dsimp only; omega) (by repeat (first | exact trivial | refine ⟨rfl, ?_⟩)) sA sS
                | succ h4 =>
                  rw [show (nd (h4 + 1) c).leaf = false from hok4.1.leaf]
                  have hCs4 : (nd (h4 + 1) c).Cs = (c.2.map (nd h4)).map NodeD.g := hok4.1.Cs
                  have hCn4 : (nd (h4 + 1) c).C.n = c.2.length := by rw [(nd_ok hok4).C.n, hCs4, List.length_map, List.length_map]
                  have h04 : 0 < c.2.length := hok4.2.1
                  obtain ⟨kd4, hkd4⟩ : ∃ kd, c.2[0]? = some kd := ⟨c.2[0], List.getElem?_eq_getElem h04⟩
                  (repeat (refine gG ?_; try intro _))
                  refine g_mv rfl ?_; refine mv_call_w (fun w hk => Ws.spush_any sg (stk fs) ((nd (h4 + 1) c).g, 1) w (by rw [stk_len]; omega) (hk.pO (blk sg (stC (stk fs)) 251) mE)) rfl rfl rfl rfl rfl (by kernel_rfl) (by intro _; first | ((repeat (first | with_reducible exact Upd.here _ | with_reducible apply Upd.there)); done) | ((repeat (first | exact Upd.here _ | apply Upd.there)); done) | fail) (fun ψ hψ => by first | (cases hψ; done) | (obtain rfl := List.mem_singleton.1 hψ; exact mE)) (fun _ => rfl) (fun _ => rfl) (fun s hs4 => ?_)
                  rw [show stk fs ++ [((nd (h4 + 1) c).g, 1)] = stk ((⟨h4 + 1, c⟩, 1) :: fs) from (stk_cons (⟨h4 + 1, c⟩, 1) fs).symm]
                  (repeat (refine gG ?_; try intro _))
                  refine g_lessR (sl (nd (h4 + 1) c).C.A 1 PE (nd (h4 + 1) c).Cs) (nodeF (nd (h4 + 1) c)) mE (fun w h => h _ fs_C) (nodeF_S fs_C) ?_
                  refine g_elem (enc := PE) (L := (nd (h4 + 1) c).Cs) 0 mE (by rw [hCs4, List.length_map, List.length_map]; exact h04) (by decide) (fun b0 o0 y0 eA hy0 => ?_)
                  obtain rfl : (nd h4 kd4).g = y0 := by
                    rw [hCs4, List.getElem?_map, List.getElem?_map, hkd4] at hy0
                    exact Option.some.inj hy0
                  refine g_say 99 (.slice (some ⟨b0, o0, none⟩) (nd (h4 + 1) c).C.n (nd (h4 + 1) c).C.c) rfl (by rw [← eA]; rfl) ?_
                  (repeat (refine gG ?_; try intro _))
                  refine gk_tkid (t := c) (c := kd4) mE (List.mem_of_getElem? hkd4) ?_
                  refine gk_again_sel rfl (⟨h4, kd4⟩, (⟨h4 + 1, c⟩, 1) :: fs) ⟨hin4.kid (List.mem_of_getElem? hkd4), .cons hst4 hin4, by rw [← hr4]; exact (rest_next fs hkd4).symm.trans (rest_cons c 0 fs)⟩ (by dsimp only; omega) (by repeat (first | exact trivial | refine ⟨rfl, ?_⟩)) sA sS
          · refine gk_any [0] (Cut _ (fun _ : Unit => [(0, .func (.yield l) #[] #[]), (4, .pointer (some ⟨sg, 0, none⟩)), (5, .pointer none), (7, .pointer (some ⟨gx, 0, none⟩)), (59, .bool false)]) (fun _ => [blk gx [.pointer (some ⟨(nd (h + 1) tt).g, 0, none⟩), .int .i64 i] 244, blk sg (stC (stk pl)) 251, Γ t2]) (fun _ => [blk bt [.pointer (some ⟨tg, 0, none⟩)] 42, blk bk [.int .u16 k.v, .int .u32 k.b, .int .u64 k.s] 29, blk tg [.pointer (some ⟨(nd a0.h a0.t).g, 0, none⟩), .int .i64 n] 55, stF (some a0)])) rfl rfl (by kernel_rfl) ?_ (cut_k fun _ => ?_)
            · skip
              refine gb_take 0 rfl (by decide +kernel) rfl rfl (ys_ev (nw := true) hT rfl sI) sF ?_
              refine gb_take 1 rfl (by decide +kernel) rfl rfl (by first | exact ys_blk hT rfl rfl mE rfl rfl | exact ys_row hT rfl rfl mE rfl rfl | exact ys_row0 hT rfl rfl mE rfl rfl) sF ?_
              refine gb_take 2 rfl (by decide +kernel) rfl rfl (ys_ev (nw := true) hT rfl sI) sF ?_
              refine gb_take 3 rfl (by decide +kernel) rfl rfl (by first | exact ys_blk hT rfl rfl mE rfl rfl | exact ys_row hT rfl rfl mE rfl rfl | exact ys_row0 hT rfl rfl mE rfl rfl) sF ?_
              refine gb_only 4 (by decide +kernel) rfl rfl ?_
              refine mv_call_bel (fun w hk => nlen_any (nd (h + 1) tt).g [] (nd (h + 1) tt).leaf (nd (h + 1) tt).K (nd (h + 1) tt).V (nd (h + 1) tt).C (nd (h + 1) tt).a w (rd_nb (hk.rR (φ := nodeF (nd (h + 1) tt)) mE)).1) rfl rfl rfl rfl rfl (by kernel_rfl) ?_
              refine ⟨sF, ?_⟩
              refine gb_take 5 rfl (by decide +kernel) rfl rfl (ys_ev (nw := true) hT rfl sI) sF ?_
              try (refine gb_say 59 (.bool false) rfl (congrArg Value.bool (tB_false (by omega))) ?_)
              refine gb_nil (by decide +kernel) ?_
              exact ⟨(), (by repeat (first | exact trivial | refine ⟨rfl, ?_⟩)), sA, sS⟩
            · (repeat (refine gG ?_; try intro _))
              refine g_mv rfl ?_; refine mv_call_w (fun w hk => Ws.spop_any sg (stk pl) w (by rw [stk_len]; omega) (hk.pO (blk sg (stC (stk pl)) 251) mE)) rfl rfl rfl rfl rfl (by kernel_rfl) (by intro _; first | ((repeat (first | with_reducible exact Upd.here _ | with_reducible apply Upd.there)); done) | ((repeat (first | exact Upd.here _ | apply Upd.there)); done) | fail) (fun ψ hψ => by first | (cases hψ; done) | (obtain rfl := List.mem_singleton.1 hψ; exact mE)) (fun _ => rfl) (fun _ => rfl) (fun s hs2 => ?_)
              (repeat (refine gG ?_; try intro _))
              refine g_mv rfl (mv_store hT rfl rfl rfl rfl rfl (p_one (stk pl)) sO rfl ?_)
              (repeat (refine gG ?_; try intro _))
              rename_i g8
              refine g_mv rfl (mv_store hT rfl rfl rfl rfl rfl (p_one (stk pl)) sO rfl ?_)
              (repeat (refine gG ?_; try intro _))
              refine gk_again_sel rfl (pl, g8) ⟨⟨_, hs⟩, by rw [← hrest]; exact (rest_over pl (by omega)).symm⟩ (Nat.lt_succ_self _) (by repeat (first | exact trivial | refine ⟨rfl, ?_⟩)) sA sS
end Go.Proofs.YtaghmffgoomebaaGreat.Wk
