/- tree.Delete. -/
import Derived.Test.YtaghmffgoomebaaGreatTs
import Derived.Test.YtaghmffgoomebaaGreatTj
namespace Go.Proofs.YtaghmffgoomebaaGreat.Tw
open Go.RowKit Mem Nd Gx Sk
open Tr hiding T row
set_option linter.unusedVariables false
set_option linter.unusedSimpArgs false
set_option maxRecDepth 100000
set_option maxHeartbeats 4000000
/-- A tree's state: no root, or one. -/
def HasO : Option AT → List EntD → Prop
  | none, L => L = []
  | some a, L => Has a.h a.t L
def rootV : Option AT → Value
  | none => .pointer none
  | some a => .pointer (some ⟨(nd a.h a.t).g, 0, none⟩)
def stF (a : Option AT) : Fact := allF a.toList (fun a => treeF a.h a.t)
/-- What Delete makes of a tree: none, or what is left, or its one child. -/
def DelS {H : Nat} (t : Tr.T H) (k : KeyD) (a : Option AT) : Prop :=
  ∃ ts, DelR H t k ts ∧ ((ts = [] ∧ a = none) ∨ ∃ s b, ts = [s] ∧ a = some b ∧ (b = ⟨H, s⟩ ∨ AT.kids ⟨H, s⟩ = [b]))
structure DelL where
  h : Nat
  c : Tr.T h
  ts : List (Tr.T h)
  A : List EntD
  C : List EntD
  xs : List (Nat × Nat)
  q : SlV
  g : Nat
def DelL.gs (z : DelL) : List Nat := (z.ts.map (nd z.h)).map NodeD.g
structure DelI {H : Nat} (t : Tr.T H) (k : KeyD) (w : World) (z : DelL) : Prop where
  p : Pth t k z.h z.c z.xs z.A z.C
  r : DelR z.h z.c k z.ts
  q : z.q.Ok z.ts.length
  new : New w [treeF H t] (allF z.ts (treeF z.h))
structure DelO where
  a : Option AT
  was : Int
  had : Bool
structure DelP {H : Nat} (t : Tr.T H) (k : KeyD) (L : List EntD) (s : DelO) : Prop where
  p : ∃ p, PosK (keysOf L) k p ∧ HasO s.a (delAt L k p) ∧ s.had = tB ((keysOf L)[p]? = some k) ∧ s.was = (if s.had = true then (L.getD p default).a else 0)
  no : s.had = false → s.a = some ⟨H, t⟩
  yes : s.had = true → DelS t k s.a
theorem joinedR_len {h : Nat} {ks ks' : List (Tr.T h)} {i : Nat} (hj : JoinedR h ks i ks') (ok : ∀ k ∈ ks, Tr.Ok h k) (sz : ∀ k ∈ ks, ln h k ≤ 6) : ks'.length ≤ ks.length ∧ (0 < ks.length → 0 < ks'.length) := by
  obtain ⟨c, hc, ⟨_, rfl⟩ | ⟨hn, a, b, js, ha, hb, hJ, rfl⟩⟩ := hj
  · exact ⟨Nat.le_refl _, fun h => h⟩
  · have h1 := joinR_len hJ (ok a (List.mem_of_getElem? ha)) (sz a (List.mem_of_getElem? ha)) (sz b (List.mem_of_getElem? hb))
    have h2 := (List.getElem?_eq_some_iff.1 hb).1
    simp only [List.length_append, List.length_take, List.length_drop]
    omega
theorem new_trans {w : World} {RA RB : List Fact} {φ : Fact} (h : New w RA φ) (h2 : ∀ ψ, ψ ∈ RA → New w RB ψ) : New w RB φ := fun b hb => by
  rcases h b hb with h1 | ⟨ψ, h3, h4⟩
  · exact .inl h1
  · exact h2 ψ h3 b h4
theorem good_low : ∀ {h : Nat} {t : Tr.T h}, Tr.Good h t → Low h t
  | 0, _, g => ⟨Nat.le_trans (by decide) g.1, g.2⟩
  | _ + 1, _, g => ⟨Nat.le_trans (by decide) g.1, g.2.1, g.2.2⟩
theorem delete_any {H : Nat} (t : Tr.T H) (k : KeyD) (L : List EntD) (tg : Nat) (w : World) (hh : Has H t L) (h9 : L.length ≤ 160) (hB : w.heap[tg]? = some (.cells [.pointer (some ⟨(nd H t).g, 0, none⟩), .int .i64 (L.length : Int)].toArray 55 (0, 0))) (hF : Rd1 w (treeF H t)) (hdis : ¬ (treeF H t).S tg) :
    Calls Tryz.prog 37 [.pointer (some ⟨tg, 0, none⟩), k.val].toArray w (RetX tg 55 (DelP t k L) (fun s => .tuple #[.int .u32 s.was, .bool s.had]) (fun s => [rootV s.a, .int .i64 ((if s.had = true then L.length - 1 else L.length : Nat) : Int)]) (fun s => [stF s.a]) [treeF H t] w) := by
  have ha : AscK (keysOf (ents H t)) := by rw [hh.row]; exact hh.asc
  have hH : H ≤ 3 := hh.low h9
  have hLp := hh.pos
  have hk0 : Kn [tg] w w [blk tg [.pointer (some ⟨(nd H t).g, 0, none⟩), .int .i64 (L.length : Int)] 55] [treeF H t] := (Kn.startW hB).addR _ hF.1 hF.2 (fun φ hφ b hb hb' => by
    obtain rfl := List.mem_singleton.1 hφ
    have : b = tg := hb
    subst this
    exact hdis hb')
  refine g_enter0 T [tg] [blk tg [.pointer (some ⟨(nd H t).g, 0, none⟩), .int .i64 (L.length : Int)] 55] [treeF H t] Tryz.func37 rfl Tryz.ntmps37 rfl hk0 ?_
  (repeat (refine gG ?_; try intro _))
  rename_i g3
  refine g_mv rfl ?_; refine mv_call_rt (fun w hk => way_any t k tg L.length w hh.ok hh.size ha (by omega) (hk.rO mE) (hk.rR mE)) rfl rfl rfl rfl rfl (by kernel_rfl) (fun _ => rfl) (fun pw hp => ?_)
  obtain ⟨sg, xs, lf, A, C⟩ := pw
  replace hp : Pth t k 0 lf xs A C := hp
  have hok := hp.ok hh.ok
  have hasc := hp.asc ha
  have hl3 := hp.len
  have hsz := root_ln (pth_size hp hh.size)
  have hlf : IsLeafW lf.2 (nd 0 lf) := hok.1
  have hl6 : lf.2.length ≤ 6 := hsz
  (repeat (refine gG ?_; try intro _))
  refine g_der [treeF H t] ((der_nd lf).trans fun ψ hψ => by obtain rfl := List.mem_singleton.1 hψ; exact der_pth hp) sS ?_
  refine g_mv rfl ?_; refine mv_call_rt (fun w hk => without_any (nd 0 lf) lf.2 k w hlf (by omega) hasc (hk.rR mE)) rfl rfl rfl rfl rfl (by kernel_rfl) (fun _ => rfl) (fun r hr => ?_)
  obtain ⟨⟨rA, rn, rc⟩, rM, was, had⟩ := r
  obtain ⟨hr1, p, hpp, hhad, hM, hwas⟩ := hr
  dsimp only at hr1 hhad hM hwas
  obtain ⟨hL, hpL, hfd, hget⟩ := way_pos hp hh hpp
  have hML : rM.length ≤ 7 := by
    have := hpp.le
    rw [List.length_map] at this
    rw [hM]
    split
    · simp only [List.length_append, List.length_take, List.length_drop]; omega
    · omega
  have hMs : rM = delAt lf.2 k p := by
    rw [hM]; unfold delAt
    rw [hhad]
  have hP0 : ∃ p', PosK (keysOf L) k p' ∧ had = tB ((keysOf L)[p']? = some k) ∧ was = (if had = true then (L.getD p' default).a else 0) := by
    refine ⟨A.length + p, hpL, by rw [hhad]; exact tB_congr hfd.symm, ?_⟩
    rw [hwas]
    by_cases hb : had = true
    · rw [if_pos hb, if_pos hb]
      have h1 := tB_iff.1 (hhad.symm.trans hb)
      rw [List.getElem?_map] at h1
      cases hx : lf.2[p]? with
      | none => rw [hx] at h1; cases h1
      | some x => rw [getD_at hx, getD_at (hget x hx)]
    · rw [if_neg hb, if_neg hb]
  cases had with
  | false =>
    (repeat (refine gG ?_; try intro _))
    obtain ⟨p9, hp91, hp92, hp93⟩ := hP0
    refine gk_der [treeF H t] (φ := stF (some ⟨H, t⟩)) (Der.all fun x hx => by obtain rfl := List.mem_singleton.1 hx; exact Der.mem (.head _)) sS ?_
    refine gk_ret hT rfl rfl (.tmp rfl (.tmp rfl .nil)) (fun w' hk => ?_)
    refine RetX.mk ⟨some ⟨H, t⟩, 0, false⟩ ⟨⟨p9, hp91, ?_, hp92, rfl⟩, fun _ => rfl, fun h => by cases h⟩ rfl hk sA (.cons (RS1.rdE hk mE (New.all fun x hx => by obtain rfl := List.mem_singleton.1 hx; exact New.self (.head _))) .nil)
    show Has H t (delAt L k p9)
    unfold delAt
    rw [if_neg (by rw [← hp92]; decide)]
    exact hh
  | true =>
    (repeat (refine gG ?_; try intro _))
    rw [show (L.length : Int) - 1 = ((L.length - 1 : Nat) : Int) by omega]
    have hfl : (keysOf lf.2)[p]? = some k := tB_iff.1 hhad.symm
    refine g_mv rfl ?_; refine mv_call_rs (fun w hk => leaves_any rA rn rc rM w hr1.n hr1.c (by rw [show rn = rM.length from hr1.n]; omega) (hk.pO (sl rA 4 EE rM) mE)) rfl rfl rfl rfl rfl (by kernel_rfl) sS (fun _ => rfl) (fun q0 hq0 hn0 => ?_)
    obtain ⟨q, ds⟩ := q0
    obtain ⟨hq1, hq2⟩ := hq0
    dsimp only at hq1 hq2
    obtain ⟨ts, e1, e2, e3⟩ := all2_leaf hq2
    subst e1
    refine g_der [allF (ts.map (nd 0)) nodeF] der_leaves sS ?_
    have hn1 : New w [treeF H t] (allF ts (treeF 0)) := der_leaves.new fun ψ hψ => by
      obtain rfl := List.mem_singleton.1 hψ
      exact New.of (hn0 _ (.tail _ (.head _)))
    have hS0 : DelR 0 lf k ts := ⟨p, hpp, hfl, by rw [e2, hMs], e3⟩
    (repeat (refine gG ?_; try intro _))
    refine g_mv rfl ?_; refine mv_call_w (fun w hk => spop_any sg xs w (by omega) (hk.pO (blk sg (stC xs) 180) mE)) rfl rfl rfl rfl rfl (by kernel_rfl) (by intro _; first | ((repeat (first | with_reducible exact Upd.here _ | with_reducible apply Upd.there)); done) | ((repeat (first | exact Upd.here _ | apply Upd.there)); done) | fail) (fun ψ hψ => by first | (cases hψ; done) | (obtain rfl := List.mem_singleton.1 hψ; exact mE)) (fun _ => rfl) (fun _ => rfl) (fun _ _ => ?_)
    (repeat (refine gG ?_; try intro _))
    refine g_mv rfl (mv_store hT rfl rfl rfl rfl rfl (p_one xs) sO rfl ?_)
    (repeat (refine gG ?_; try intro _))
    rename_i g12
    refine gk_loop_sel (fun (z : DelL) => DelI t k w z) (fun (z : DelL) => [(0, .pointer (some ⟨tg, 0, none⟩)), (6, .pointer (some ⟨sg, 0, none⟩)), (9, .int .u32 was), (11, z.q.v), (12, .pointer (some ⟨z.g, 0, none⟩)), (13, .bool (!z.xs.isEmpty))]) (fun (z : DelL) => [blk z.g [pA z.xs, pI z.xs] 138, blk sg (stC z.xs.dropLast) 180, blk tg [.pointer (some ⟨(nd H t).g, 0, none⟩), .int .i64 ((L.length - 1 : Nat) : Int)] 55]) (fun (z : DelL) => [allF z.ts (treeF z.h), sl z.q.A 1 PE z.gs, headF z.q z.gs, treeF H t]) (fun (z : DelL) => z.xs.length) ⟨0, lf, ts, A, C, xs, q, g12⟩ rfl ⟨hp, hS0, by rw [List.length_map] at hq1; exact hq1, hn1⟩ (by repeat (first | exact trivial | refine ⟨rfl, ?_⟩)) sA sS ?_
    rintro z hI
    replace hI : DelI t k w z := hI
    change GK _ _ [(0, .pointer (some ⟨tg, 0, none⟩)), (6, .pointer (some ⟨sg, 0, none⟩)), (9, .int .u32 was), (11, z.q.v), (12, .pointer (some ⟨z.g, 0, none⟩)), (13, .bool (!z.xs.isEmpty))] [blk z.g [pA z.xs, pI z.xs] 138, blk sg (stC z.xs.dropLast) 180, blk tg [.pointer (some ⟨(nd H t).g, 0, none⟩), .int .i64 ((L.length - 1 : Nat) : Int)] 55] [allF z.ts (treeF z.h), sl z.q.A 1 PE z.gs, headF z.q z.gs, treeF H t]
    obtain ⟨h, c, ts, A, C, xs, ⟨qA, qn, qc⟩, g12⟩ := z
    obtain ⟨zp, zr, zq, zn⟩ := hI
    dsimp only at zp zr zq zn
    have zqn : qn = ts.length := zq.n
    change GK _ _ [(0, .pointer (some ⟨tg, 0, none⟩)), (6, .pointer (some ⟨sg, 0, none⟩)), (9, .int .u32 was), (11, .slice qA qn qc), (12, .pointer (some ⟨g12, 0, none⟩)), (13, .bool (!xs.isEmpty))] [blk g12 [pA xs, pI xs] 138, blk sg (stC xs.dropLast) 180, blk tg [.pointer (some ⟨(nd H t).g, 0, none⟩), .int .i64 ((L.length - 1 : Nat) : Int)] 55] [allF ts (treeF h), sl qA 1 PE ((ts.map (nd h)).map NodeD.g), headF ⟨qA, qn, qc⟩ ((ts.map (nd h)).map NodeD.g), treeF H t]
    rcases List.eq_nil_or_concat xs with rfl | ⟨l, x, rfl⟩
    · generalize hl0 : ([] : List (Nat × Nat)) = l0 at zp
      cases zp with
      | root =>
        obtain ⟨p9, hp91, hp92, hp93⟩ := hP0
        rcases del_len hh zr with rfl | ⟨s, rfl⟩
        · obtain ⟨p8, hp81, hp83, hp82⟩ := del_none hh zr
          obtain rfl := pos_unique hp81 hp91
          have hq1 : qn = 0 := zqn
          refine gk_sel (f' := [(0, .pointer (some ⟨tg, 0, none⟩)), (9, .int .u32 was), (11, .slice qA qn qc), (13, .bool false)]) (O' := [blk tg [.pointer (some ⟨(nd H t).g, 0, none⟩), .int .i64 ((L.length - 1 : Nat) : Int)] 55]) (R' := []) (by repeat (first | exact trivial | refine ⟨rfl, ?_⟩)) sA (List.nil_subset _) ?_
          refine gk_der [] (φ := stF none) (Der.all fun x hx => by cases hx) (List.nil_subset _) ?_
          (repeat' (first | (refine gG ?_; try intro _) | ((first | refine g_split rfl rfl tE (fun _ => ?_) (fun _ => ?_) | refine gk_cond rfl rfl tE (fun _ => ?_) (fun _ => ?_)) <;> (try first | (exfalso; omega; done) | (rename_i hx; exact absurd rfl hx) | (rename_i hx; cases hx; done)))))
          refine gk_rounds 1 rfl ?_
          (repeat' (first | (refine gG ?_; try intro _) | ((first | refine g_split rfl rfl tE (fun _ => ?_) (fun _ => ?_) | refine gk_cond rfl rfl tE (fun _ => ?_) (fun _ => ?_)) <;> (try first | (exfalso; omega; done) | (rename_i hx; exact absurd rfl hx) | (rename_i hx; cases hx; done)))))
          refine gk_ret hT rfl rfl (.tmp rfl (.tmp rfl .nil)) (fun w' hk => ?_)
          refine RetX.mk ⟨none, was, true⟩ ⟨⟨p8, hp81, hp82, hp92, hp93⟩, fun h => (by cases h), fun _ => ⟨[], zr, .inl ⟨rfl, rfl⟩⟩⟩ rfl hk sA (.cons (RS1.rdE hk mE (New.all fun x hx => by cases hx)) .nil)
        · obtain ⟨p8, hp81, hp83, hok8, hlow8, hen8, has8⟩ := del_one hh zr
          obtain rfl := pos_unique hp81 hp91
          have hq1 : qn = 1 := zqn
          refine gk_elem (enc := PE) (L := (([s] : List (Tr.T H)).map (nd H)).map NodeD.g) 0 mE (by simp) (by decide) (fun b1 o1 y1 eA hy1 => ?_)
          subst eA
          obtain rfl : (nd H s).g = y1 := Option.some.inj hy1
          refine gk_der [allF [s] (treeF H)] (Der.elem (Der.mem (.head _)) (.head _)) sS ?_
          have hnew : New w [treeF H t] (treeF H s) := fun b hb => zn b ⟨s, .head _, hb⟩
          refine gk_sel (f' := [(0, .pointer (some ⟨tg, 0, none⟩)), (9, .int .u32 was), (11, .slice (some ⟨b1, o1, none⟩) qn qc), (13, .bool false)]) (O' := [blk tg [.pointer (some ⟨(nd H t).g, 0, none⟩), .int .i64 ((L.length - 1 : Nat) : Int)] 55]) (R' := [row b1 (o1 + 0 * 1) (encF PE (nd H s).g 0 1), treeF H s]) (by repeat (first | exact trivial | refine ⟨rfl, ?_⟩)) sA sS ?_
          (repeat' (first | (refine gG ?_; try intro _) | ((first | refine g_split rfl rfl tE (fun _ => ?_) (fun _ => ?_) | refine gk_cond rfl rfl tE (fun _ => ?_) (fun _ => ?_)) <;> (try first | (exfalso; omega; done) | (rename_i hx; exact absurd rfl hx) | (rename_i hx; cases hx; done)))))
          refine gk_loop_sel (fun (a : AT) => (Tr.Ok a.h a.t ∧ Low a.h a.t ∧ ents a.h a.t = delAt L k p8 ∧ (a = ⟨H, s⟩ ∨ (AT.kids ⟨H, s⟩ = [a] ∧ Tr.Good a.h a.t)) ∧ New w [treeF H t] (treeF a.h a.t))) (fun (a : AT) => [(0, .pointer (some ⟨tg, 0, none⟩)), (9, .int .u32 was)]) (fun (a : AT) => [blk tg [.pointer (some ⟨(nd a.h a.t).g, 0, none⟩), .int .i64 ((L.length - 1 : Nat) : Int)] 55]) (fun (a : AT) => [treeF a.h a.t]) (fun (a : AT) => a.h) ⟨H, s⟩ rfl ⟨hok8, hlow8, hen8, .inl rfl, hnew⟩ (by repeat (first | exact trivial | refine ⟨rfl, ?_⟩)) sA sS ?_
          rintro a hI
          replace hI : (Tr.Ok a.h a.t ∧ Low a.h a.t ∧ ents a.h a.t = delAt L k p8 ∧ (a = ⟨H, s⟩ ∨ (AT.kids ⟨H, s⟩ = [a] ∧ Tr.Good a.h a.t)) ∧ New w [treeF H t] (treeF a.h a.t)) := hI
          change GK _ _ [(0, .pointer (some ⟨tg, 0, none⟩)), (9, .int .u32 was)] [blk tg [.pointer (some ⟨(nd a.h a.t).g, 0, none⟩), .int .i64 ((L.length - 1 : Nat) : Int)] 55] [treeF a.h a.t]
          obtain ⟨h2, c2⟩ := a
          obtain ⟨ao, al, ae, aw, an⟩ := hI
          dsimp only at ao al ae an
          change GK _ _ [(0, .pointer (some ⟨tg, 0, none⟩)), (9, .int .u32 was)] [blk tg [.pointer (some ⟨(nd h2 c2).g, 0, none⟩), .int .i64 ((L.length - 1 : Nat) : Int)] 55] [treeF h2 c2]
          have hD : DelS t k (some ⟨h2, c2⟩) := ⟨[s], zr, .inr ⟨s, ⟨h2, c2⟩, rfl, rfl, aw.imp id (fun h => h.1)⟩⟩
          refine gk_tnd (t := c2) mE ?_
          refine gk_nB (d := nd h2 c2) mE ?_
          cases h2 with
          | zero =>
            rw [show (nd 0 c2).leaf = true from ao.1.leaf]
            have hHas : Has 0 c2 (delAt L k p8) := low_root ao al ae has8 (.inl rfl)
            (repeat (refine gG ?_; try intro _))
            refine gk_der [treeF 0 c2] (φ := stF (some ⟨0, c2⟩)) (Der.all fun x hx => by obtain rfl := List.mem_singleton.1 hx; exact Der.mem (.head _)) sS ?_
            refine gk_ret hT rfl rfl (.tmp rfl (.tmp rfl .nil)) (fun w' hk => ?_)
            exact RetX.mk ⟨some ⟨0, c2⟩, was, true⟩ ⟨⟨p8, hp81, hHas, hp92, hp93⟩, fun h => (by cases h), fun _ => hD⟩ rfl hk sA (.cons (RS1.rdE hk mE (New.all fun x hx => by obtain rfl := List.mem_singleton.1 hx; exact an)) .nil)
          | succ h2 =>
            rw [show (nd (h2 + 1) c2).leaf = false from ao.1.leaf]
            have hKn2 : (nd (h2 + 1) c2).K.n = c2.2.length := by rw [(nd_ok ao).K.n, len_inner ao]; rfl
            have hCs2 : (nd (h2 + 1) c2).Cs = (c2.2.map (nd h2)).map NodeD.g := ao.1.Cs
            have hCn2 : (nd (h2 + 1) c2).C.n = c2.2.length := by rw [(nd_ok ao).C.n, hCs2, List.length_map, List.length_map]
            by_cases h1 : c2.2.length = 1
            · obtain ⟨kd, hkd⟩ : ∃ kd, c2.2 = [kd] := List.length_eq_one_iff.1 h1
              have hkd0 : c2.2[0]? = some kd := by rw [hkd]; rfl
              have hkg : Tr.Good h2 kd := al.2.2 kd (by rw [hkd]; exact .head _)
              have hw2 : AT.kids ⟨H, s⟩ = [(⟨h2, kd⟩ : AT)] := by
                rcases aw with e | ⟨_, g⟩
                · rw [← e]
                  show (c2.2).map _ = _
                  rw [hkd]; rfl
                · have g1 : 3 ≤ c2.2.length := g.1
                  omega
              refine gk_nC (d := nd (h2 + 1) c2) mE ?_
              refine gk_elem (enc := PE) (L := (nd (h2 + 1) c2).Cs) 0 mE (by rw [hCs2, List.length_map, List.length_map]; omega) (by decide) (fun b2 o2 y2 eA2 hy2 => ?_)
              obtain rfl : (nd h2 kd).g = y2 := by
                rw [hCs2, List.getElem?_map, List.getElem?_map, hkd0] at hy2
                exact Option.some.inj hy2
              (repeat' (first | (refine gG ?_; try intro _) | (refine g_mv rfl ?_; first | refine mv_call_bel (fun w hk => nlen_any (nd (h2 + 1) c2).g [] (nd (h2 + 1) c2).leaf (nd (h2 + 1) c2).K (nd (h2 + 1) c2).V (nd (h2 + 1) c2).C (nd (h2 + 1) c2).a w (rd_nb (hk.rR (φ := nodeF (nd (h2 + 1) c2)) mE)).1) rfl rfl rfl rfl rfl (by kernel_rfl) ?_) | ((first | refine g_split rfl rfl tE (fun _ => ?_) (fun _ => ?_) | refine gk_cond rfl rfl tE (fun _ => ?_) (fun _ => ?_)) <;> (try first | (exfalso; omega; done) | (rename_i hx; exact absurd rfl hx) | (rename_i hx; cases hx; done)))))
              refine g_say 113 (.slice (some ⟨b2, o2, none⟩) (nd (h2 + 1) c2).C.n (nd (h2 + 1) c2).C.c) rfl (by rw [← eA2]; rfl) ?_
              (repeat (refine gG ?_; try intro _))
              refine gk_tkid (t := c2) (c := kd) mE (List.mem_of_getElem? hkd0) ?_
              refine gk_again_sel rfl ⟨h2, kd⟩ ⟨ao.2.2 kd (List.mem_of_getElem? hkd0), good_low hkg, ?_, .inr ⟨hw2, hkg⟩, fun b hb => ?_⟩ (Nat.lt_succ_self _) (by repeat (first | exact trivial | refine ⟨rfl, ?_⟩)) sA sS
              · rw [← ae]
                show ents h2 kd = ((c2.2).map (ents h2)).flatten
                rw [hkd]; simp
              · exact (der_kid (t := c2) (List.mem_of_getElem? hkd0)).new (fun ψ hψ => by obtain rfl := List.mem_singleton.1 hψ; exact an) b hb
            · have hHas : Has (h2 + 1) c2 (delAt L k p8) := low_root ao al ae has8 (.inr (by show 2 ≤ c2.2.length; have := al.1; omega))
              (repeat' (first | (refine gG ?_; try intro _) | (refine g_mv rfl ?_; first | refine mv_call_bel (fun w hk => nlen_any (nd (h2 + 1) c2).g [] (nd (h2 + 1) c2).leaf (nd (h2 + 1) c2).K (nd (h2 + 1) c2).V (nd (h2 + 1) c2).C (nd (h2 + 1) c2).a w (rd_nb (hk.rR (φ := nodeF (nd (h2 + 1) c2)) mE)).1) rfl rfl rfl rfl rfl (by kernel_rfl) ?_) | ((first | refine g_split rfl rfl tE (fun _ => ?_) (fun _ => ?_) | refine gk_cond rfl rfl tE (fun _ => ?_) (fun _ => ?_)) <;> (try first | (exfalso; omega; done) | (rename_i hx; exact absurd rfl hx) | (rename_i hx; cases hx; done)))))
              refine gk_der [treeF (h2 + 1) c2] (φ := stF (some ⟨h2 + 1, c2⟩)) (Der.all fun x hx => by obtain rfl := List.mem_singleton.1 hx; exact Der.mem (.head _)) sS ?_
              refine gk_ret hT rfl rfl (.tmp rfl (.tmp rfl .nil)) (fun w' hk => ?_)
              exact RetX.mk ⟨some ⟨h2 + 1, c2⟩, was, true⟩ ⟨⟨p8, hp81, hHas, hp92, hp93⟩, fun h => (by cases h), fun _ => hD⟩ rfl hk sA (.cons (RS1.rdE hk mE (New.all fun x hx => by obtain rfl := List.mem_singleton.1 hx; exact an)) .nil)
      | down q1 hp1 hq1 hc1 => simp at hl0
    · rw [List.concat_eq_append] at zp ⊢
      obtain ⟨s, A', C', k1, hps, hk1, hk2, hx, hC⟩ := zp.last
      obtain ⟨i0, hi0⟩ : ∃ i0, i0 = kidIx ((s.2.map (ents h)).map fstK) k k1 := ⟨_, rfl⟩
      rw [← hi0] at hx hC
      subst hx
      rw [pA_snoc, pI_snoc, List.dropLast_concat]
      have hsz1 := pth_size hps hh.size
      have hok1 := hps.ok hh.ok
      have hc2 : s.2[i0]? = some c := by rw [hi0]; exact hk2
      have hi1 : i0 < s.2.length := (List.getElem?_eq_some_iff.1 hc2).1
      have hl6 : s.2.length ≤ 6 := hsz1.2.1
      obtain ⟨u, rfl, hnear⟩ := (delR_size h c k ts zr).1 (hsz1.2.2 c (List.mem_of_getElem? hc2))
      have hts : 1 ≤ [u].length ∧ [u].length ≤ 2 := ⟨by simp, by simp⟩
      have hll := hps.len
      have hcg := hsz1.2.2 c (List.mem_of_getElem? hc2)
      have hLok0 : ∀ y ∈ s.2.take i0 ++ [u] ++ s.2.drop (i0 + 1), Tr.Ok h y ∧ ln h y ≤ 6 := by
        intro y hy
        rcases List.mem_append.1 hy with hy | hy
        · rcases List.mem_append.1 hy with hy | hy
          · exact ⟨hok1.2.2 y (List.mem_of_mem_take hy), (hsz1.2.2 y (List.mem_of_mem_take hy)).ln.2⟩
          · obtain rfl := List.mem_singleton.1 hy
            exact ⟨(delR_ok h c k [y] (hok1.2.2 c (List.mem_of_getElem? hc2)) (zp.asc ha) zr).2 y (.head _), hnear.ln.2⟩
        · exact ⟨hok1.2.2 y (List.mem_of_mem_drop hy), (hsz1.2.2 y (List.mem_of_mem_drop hy)).ln.2⟩
      have hLl : (s.2.take i0 ++ [u] ++ s.2.drop (i0 + 1)).length = s.2.length := by simp only [List.length_append, List.length_take, List.length_drop, List.length_cons, List.length_nil]; omega
      have hCs : (nd (h + 1) s).Cs = (s.2.map (nd h)).map NodeD.g := hok1.1.Cs
      have hCl : (nd (h + 1) s).Cs.length = s.2.length := by rw [hCs, List.length_map, List.length_map]
      have hCn : (nd (h + 1) s).C.n = (nd (h + 1) s).Cs.length := (nd_ok hok1).C.n
      have eV : (nd (h + 1) s).Cs.take i0 ++ ([u].map (nd h)).map NodeD.g ++ (nd (h + 1) s).Cs.drop (i0 + 1) = ((s.2.take i0 ++ [u] ++ s.2.drop (i0 + 1)).map (nd h)).map NodeD.g := by
        rw [hCs]
        simp only [List.map_append, List.map_take, List.map_drop]
      refine gk_der [treeF H t] (der_pth hps) sS ?_
      refine gk_der [treeF (h + 1) s] (der_nd s) sS ?_
      refine gk_nC (d := nd (h + 1) s) mE ?_
      refine gk_nB (d := nd (h + 1) s) mE ?_
      refine gk_der [treeF (h + 1) s, allF [u] (treeF h)] (der_splice s [u] i0 (i0 + 1)) sS ?_
      refine gk_der [allF (s.2.take i0 ++ [u] ++ s.2.drop (i0 + 1)) (treeF h)] (der_nds _) sS ?_
      refine gk_head (q := ⟨qA, qn, qc⟩) (L := ([u].map (nd h)).map NodeD.g) mE mE (by rw [List.length_map, List.length_map]; omega) (fun g0 eqA => ?_)
      replace eqA : qA = some ⟨g0, 0, none⟩ := eqA
      subst eqA
      refine gk_say 13 (.bool true) rfl (by simp) ?_
      (repeat (refine gG ?_; try intro _))
      refine gk_any [0, 6] (Cut _ (fun v : Value => [(0, .pointer (some ⟨tg, 0, none⟩)), (6, .pointer (some ⟨sg, 0, none⟩)), (9, .int .u32 was), (12, .pointer (some ⟨g12, 0, none⟩)), (14, v)])
        (fun v => [own 0 53 1 v PE (((s.2.take i0 ++ [u] ++ s.2.drop (i0 + 1)).map (nd h)).map NodeD.g), blk g12 [.pointer (some ⟨(nd (h + 1) s).g, 0, none⟩), .int .i64 i0] 138, blk sg (stC l) 180, blk tg [.pointer (some ⟨(nd H t).g, 0, none⟩), .int .i64 ((L.length - 1 : Nat) : Int)] 55])
        (fun v => [allF (s.2.take i0 ++ [u] ++ s.2.drop (i0 + 1)) (treeF h), treeF H t])) rfl rfl (by kernel_rfl) ?_ (cut_k fun v => ?_)
      · skip
        refine gb_take 0 rfl (by decide +kernel) rfl rfl (ys_ev (nw := true) hT rfl sI) sF ?_
        refine gb_take 1 rfl (by decide +kernel) rfl rfl (by first | exact ys_blk hT rfl rfl mE rfl rfl | exact ys_row hT rfl rfl mE rfl rfl | exact ys_row0 hT rfl rfl mE rfl rfl) sF ?_
        refine gb_take 2 rfl (by decide +kernel) rfl rfl (ys_ev (nw := true) hT rfl sI) sF ?_
        refine gb_take 3 rfl (by decide +kernel) rfl rfl (ys_ev (nw := true) hT rfl sI) sF ?_
        refine gb_take 4 rfl (by decide +kernel) rfl rfl (by first | exact ys_blk hT rfl rfl mE rfl rfl | exact ys_row hT rfl rfl mE rfl rfl | exact ys_row0 hT rfl rfl mE rfl rfl) sF ?_
        try (refine gb_say 56 (.slice (nd (h + 1) s).C.A (nd (h + 1) s).C.n (nd (h + 1) s).C.c) rfl rfl ?_)
        refine gb_take 6 rfl (by decide +kernel) rfl rfl (ys_ev (nw := true) hT rfl sI) sF ?_
        refine gb_take 7 rfl (by decide +kernel) rfl rfl (by first | exact ys_blk hT rfl rfl mE rfl rfl | exact ys_row hT rfl rfl mE rfl rfl | exact ys_row0 hT rfl rfl mE rfl rfl) sF ?_
        refine gb_take 8 rfl (by decide +kernel) rfl rfl (ys_ev (nw := true) hT rfl sI) sF ?_
        refine gb_take 9 rfl (by decide +kernel) rfl rfl (by first | exact ys_blk hT rfl rfl mE rfl rfl | exact ys_row hT rfl rfl mE rfl rfl | exact ys_row0 hT rfl rfl mE rfl rfl) sF ?_
        refine gb_take 10 rfl (by decide +kernel) rfl rfl (ys_ev (nw := true) hT rfl sI) sF ?_
        try (refine gb_say 62 (.int .i64 ((i0 + 1 : Nat) : Int)) rfl rfl ?_)
        refine gb_take 11 rfl (by decide +kernel) rfl rfl (ys_ev (nw := true) hT rfl sI) sF ?_
        refine gb_only 5 (by decide +kernel) rfl rfl ?_
        refine mv_call_rt (fun w hk => clonePn_own (nd (h + 1) s).C.A (nd (h + 1) s).C.n (nd (h + 1) s).C.c (nd (h + 1) s).Cs w hCn (by omega) (hk.pR (sl (nd (h + 1) s).C.A 1 PE (nd (h + 1) s).Cs) mE)) rfl rfl rfl rfl rfl (by kernel_rfl) (fun _ => rfl) (fun v1 _ => ?_)
        refine ⟨sF, ?_⟩
        (refine gb_own0 v1 mE (by omega) (fun b1 c1 hv1 _ _ => ?_); subst hv1)
        refine gb_only 12 (by decide +kernel) rfl rfl ?_
        refine mv_call_re (fun w hk => replace_any 0 b1 (nd (h + 1) s).Cs.length c1 (nd (h + 1) s).Cs i0 (i0 + 1) (([u].map (nd h)).map NodeD.g) g0 qn qc w (hk.pO (own 0 53 1 (.slice (some ⟨b1, 0, none⟩) (nd (h + 1) s).Cs.length c1) PE (nd (h + 1) s).Cs) mE) (by omega) (by rw [List.length_map, List.length_map]; omega) (by rw [List.length_map, List.length_map]; omega) zq.c (by omega) (by omega) (by omega) (Nat.zero_le _) (hk.pR (blk g0 (flatF 1 PE (([u].map (nd h)).map NodeD.g)) 53) mE) (fun hne => hk.disR (own 0 53 1 (.slice (some ⟨b1, 0, none⟩) (nd (h + 1) s).Cs.length c1) PE (nd (h + 1) s).Cs) mE (blk g0 (flatF 1 PE (([u].map (nd h)).map NodeD.g)) 53) mE b1 rfl hne)) rfl rfl rfl rfl rfl (by kernel_rfl) (by intro _; first | ((repeat (first | with_reducible exact Upd.here _ | with_reducible apply Upd.there)); done) | ((repeat (first | exact Upd.here _ | apply Upd.there)); done) | fail) (fun v2 => ?_)
        refine ⟨sF, ?_⟩
        (rw [eV])
        refine gb_take 13 rfl (by decide +kernel) rfl rfl (ys_ev (nw := true) hT rfl sI) sF ?_
        refine gb_nil (by decide +kernel) ?_
        exact ⟨_, (by repeat (first | exact trivial | refine ⟨rfl, ?_⟩)), sA, sS⟩
      · change GK _ _ [(0, .pointer (some ⟨tg, 0, none⟩)), (6, .pointer (some ⟨sg, 0, none⟩)), (9, .int .u32 was), (12, .pointer (some ⟨g12, 0, none⟩)), (14, v)] [own 0 53 1 v PE (((s.2.take i0 ++ [u] ++ s.2.drop (i0 + 1)).map (nd h)).map NodeD.g), blk g12 [.pointer (some ⟨(nd (h + 1) s).g, 0, none⟩), .int .i64 i0] 138, blk sg (stC l) 180, blk tg [.pointer (some ⟨(nd H t).g, 0, none⟩), .int .i64 ((L.length - 1 : Nat) : Int)] 55] [allF (s.2.take i0 ++ [u] ++ s.2.drop (i0 + 1)) (treeF h), treeF H t]
        refine gk_own0 v mE (by rw [List.length_map, List.length_map, hLl]; omega) (fun b2 c2 hv _ _ => ?_)
        subst hv
        (repeat (refine gG ?_; try intro _))
        refine g_mv rfl ?_
        refine mv_call_ro (fun w hk => joined_any (s.2.take i0 ++ [u] ++ s.2.drop (i0 + 1)) i0 0 b2 (((s.2.take i0 ++ [u] ++ s.2.drop (i0 + 1)).map (nd h)).map NodeD.g).length c2 w (by rw [List.length_map, List.length_map]) (by rw [hLl]; exact hi1) (by rw [hLl]; omega) (fun y hy => (hLok0 y hy).1) (fun y hy => (hLok0 y hy).2) (Nat.zero_le _) (hk.pO (own 0 53 1 (.slice (some ⟨b2, 0, none⟩) (((s.2.take i0 ++ [u] ++ s.2.drop (i0 + 1)).map (nd h)).map NodeD.g).length c2) PE (((s.2.take i0 ++ [u] ++ s.2.drop (i0 + 1)).map (nd h)).map NodeD.g)) mE) (hk.rR mE) (fun hS => hk.disR (own 0 53 1 (.slice (some ⟨b2, 0, none⟩) (((s.2.take i0 ++ [u] ++ s.2.drop (i0 + 1)).map (nd h)).map NodeD.g).length c2) PE (((s.2.take i0 ++ [u] ++ s.2.drop (i0 + 1)).map (nd h)).map NodeD.g)) mE (allF (s.2.take i0 ++ [u] ++ s.2.drop (i0 + 1)) (treeF h)) mE b2 rfl hS)) rfl rfl rfl rfl rfl (by kernel_rfl) (by intro _; first | ((repeat (first | with_reducible exact Upd.here _ | with_reducible apply Upd.there)); done) | ((repeat (first | exact Upd.here _ | apply Upd.there)); done) | fail) sS (fun _ => rfl) (fun sj hJ hnj => ?_)
        obtain ⟨v3, ks3⟩ := sj
        replace hJ : JoinedR h (s.2.take i0 ++ [u] ++ s.2.drop (i0 + 1)) i0 ks3 := hJ
        replace hnj : New w [allF (s.2.take i0 ++ [u] ++ s.2.drop (i0 + 1)) (treeF h)] (allF ks3 (treeF h)) := hnj _ (.head _)
        have hk3l := joinedR_len hJ (fun y hy => (hLok0 y hy).1) (fun y hy => (hLok0 y hy).2)
        rw [hLl] at hk3l
        have hk3ok := (joinedR_ok (fun y hy => (hLok0 y hy).1) hJ).2
        change G _ _ _ _ ((68, v3) :: _) (own 0 53 1 v3 PE ((ks3.map (nd h)).map NodeD.g) :: _) (allF ks3 (treeF h) :: _)
        refine g_ownv v3 mE (fun A3 c3 hv3 h31 _ _ => ?_)
        subst hv3
        refine g_der [allF ks3 (treeF h)] (der_nds ks3) sS ?_
        refine g_mv rfl ?_; refine mv_call_rs (fun w hk => inners_any A3 ((ks3.map (nd h)).map NodeD.g).length c3 (ks3.map (nd h)) w (by rw [List.length_map]) h31 (by rw [List.length_map, List.length_map]; omega) (fun d hd => by
          obtain ⟨y, hy, rfl⟩ := List.mem_map.1 hd
          exact ⟨by rw [← ln_eq (hk3ok y hy)]; exact ln_pos (hk3ok y hy), nd_ok (hk3ok y hy)⟩) (.cons (hk.rR mE) (.cons (rd_sl (own_slT hk mE) (by decide)) .nil))) rfl rfl rfl rfl rfl (by kernel_rfl) sS (fun _ => rfl) (fun p2 hp2 hn2 => ?_)
        obtain ⟨⟨pA', pn, pc⟩, ds'⟩ := p2
        obtain ⟨hp1, hp2⟩ := hp2
        dsimp only at hp1 hp2
        obtain ⟨ts', e1', e2', e3'⟩ := all2_inner hp2
        subst e1'
        refine g_der [allF (ts'.map (nd (h + 1))) nodeF, allF ks3 (treeF h)] (der_trees e2') sS ?_
        have hn3 : New w [treeF H t] (allF ts' (treeF (h + 1))) := (der_trees e2').new fun ψ hψ => by
          rcases List.mem_cons.1 hψ with rfl | hψ
          · exact New.of (hn2 _ (.tail _ (.head _)))
          · obtain rfl := List.mem_singleton.1 hψ
            refine new_trans hnj fun ψ hψ => ?_
            obtain rfl := List.mem_singleton.1 hψ
            refine (der_splice s [u] i0 (i0 + 1)).new fun χ hχ => ?_
            rcases List.mem_cons.1 hχ with rfl | hχ
            · exact (der_pth hps).new fun y hy => New.self hy
            · obtain rfl := List.mem_singleton.1 hχ
              exact zn
        (repeat (refine gG ?_; try intro _))
        rename_i g13
        refine g_mv rfl ?_; refine mv_call_w (fun w hk => spop_any sg l w (by omega) (hk.pO (blk sg (stC l) 180) mE)) rfl rfl rfl rfl rfl (by kernel_rfl) (by intro _; first | ((repeat (first | with_reducible exact Upd.here _ | with_reducible apply Upd.there)); done) | ((repeat (first | exact Upd.here _ | apply Upd.there)); done) | fail) (fun ψ hψ => by first | (cases hψ; done) | (obtain rfl := List.mem_singleton.1 hψ; exact mE)) (fun _ => rfl) (fun _ => rfl) (fun _ _ => ?_)
        (repeat (refine gG ?_; try intro _))
        refine g_mv rfl (mv_store hT rfl rfl rfl rfl rfl (p_one l) sO rfl ?_)
        (repeat (refine gG ?_; try intro _))
        refine gk_again_sel rfl ⟨h + 1, s, ts', A', C', l, ⟨pA', pn, pc⟩, g13⟩ ⟨hps, ⟨k1, c, [u], ks3, hk1, hk2, zr, by rw [← hi0]; exact hJ, e2', e3'⟩, by rw [List.length_map] at hp1; exact hp1, hn3⟩ (by simp) (by repeat (first | exact trivial | refine ⟨rfl, ?_⟩)) sA sS
end Go.Proofs.YtaghmffgoomebaaGreat.Tw
