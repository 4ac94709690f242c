/- check.Tree of any tree that came of calls: fine; the chapter's example. store.Load of what was saved. -/
import Derived.Test.YtaghmffgoomebaaGreatCt
import Derived.Test.YtaghmffgoomebaaGreatWq
import Derived.Test.YtaghmffgoomebaaGreatSvC
import Derived.Test.YtaghmffgoomebaaGreatStI
set_option linter.unusedVariables false
set_option linter.unusedSimpArgs false
namespace Go.Proofs.YtaghmffgoomebaaGreat.Ck
open Go.RowKit Mem Nd Gx Sk Tw Wk
open Tr hiding T row
set_option maxRecDepth 100000
set_option maxHeartbeats 1000000
theorem zmU {M : List EntD} (h : ∀ e ∈ M, e.k.Bd) : win ⟨0, 0, 0⟩ maxK M = M := by
 unfold win
 rw [List.filter_eq_self]
 intro e he
 have h1 := (h e he).v; have h2 := (h e he).b; have h3 := (h e he).s
 unfold inW maxK
 rw [zaj (zjc (h e he)), zaj (by unfold klt; dsimp only; omega)]
 rfl
theorem zjE {a : AT} {Q : List AT} {i : Nat} (h : BfsR a Q i) (f : a.Fine) : ∀ q ∈ Q, q.Fine := by
 induction h with
 | start => intro q hq; obtain rfl := m1 hq; exact f
 | step h hb ih =>
   intro q hq
   rcases List.mem_append.1 hq with hq | hq
   ·exact ih q hq
   ·exact (ih _ (List.mem_of_getElem? hb)).kids q hq
theorem zjD {a : AT} {Q : List AT} {i : Nat} (h : BfsR a Q i) (r : a.Root) : (∃ Q', Q = a :: Q' ∧ ∀ q ∈ Q', q.Good) := by
 induction h with
 | start => exact ⟨[], rfl, fun q hq => by cases hq⟩
 | @step Q i b h hb ih =>
   obtain ⟨Q', rfl, hg⟩ := ih
   refine ⟨Q' ++ b.kids, rfl, fun q hq => ?_⟩
   rcases List.mem_append.1 hq with hq | hq
   ·exact hg q hq
   ·rcases List.mem_cons.1 (List.mem_of_getElem? hb) with rfl | hb'
    ·exact AT.Root.kids r q hq
    ·exact AT.Good.kids (hg b hb') q hq
theorem zlP {b : AT} {rt : Bool} (f : b.Fine) (hl : (if rt = true then (if b.h = 0 then 1 else 2) else 3) ≤ b.nd.Ks.length ∧ b.nd.Ks.length ≤ 6) : goodN b rt := by
 have ok : b.Ok := f.1
 have hno : (nd b.h b.t).Ok := zch ok
 have hlf : (nd b.h b.t).leaf = decide (b.h = 0) := AT.zpx ok
 have hKl : b.nd.Ks.length = if b.h = 0 then b.ents.length else b.kids.length := AT.zo1 ok
 refine ⟨f.keys, ?_, ?_⟩
 ·unfold FillP
  rw [hlf, hno.K.n, hno.V.n, hno.C.n]
  refine ⟨?_, hl.2, ?_⟩
  ·have := hl.1
   by_cases h0 : b.h = 0
   ·simp only [h0, decide_true, if_true] at this ⊢; exact this
   ·simp only [h0, decide_false, if_false, Bool.false_eq_true] at this ⊢; exact this
  ·by_cases h0 : b.h = 0
   ·rw [decide_eq_true h0, if_pos rfl]
    obtain ⟨h, t⟩ := b
    dsimp only at h0
    subst h0
    have ok' : IsLeafW t.2 t.1 := ok.1
    show t.1.Vs.length = t.1.Ks.length
    rw [ok'.Vs, ok'.Ks, List.length_map, List.length_map]
   ·rw [decide_eq_false h0, if_neg (by decide)]
    have e1 : (nd b.h b.t).Cs.length = b.kids.length := by rw [show (nd b.h b.t).Cs = _ from AT.Cs_eq ok, List.length_map]
    rw [e1]
    rw [if_neg h0] at hKl
    exact hKl.symm
 ·intro i d hd
  rw [List.getElem?_map] at hd
  obtain ⟨k, hk, rfl⟩ := Option.map_eq_some_iff.1 hd
  have hkm := List.mem_of_getElem? hk
  have hkf := f.kids k hkm
  have h0 : b.h ≠ 0 := by have := AT.zhj k hkm; omega
  have hkl := AT.fst hkf.1
  constructor
  ·have h1 := AT.zo1 hkf.1
   have h2 : (nd k.h k.t).Ks.length = if k.h = 0 then k.ents.length else k.kids.length := h1
   rw [h2]
   split
   ·omega
   ·rename_i hk0
    have := hkf.1
    obtain ⟨kh, kt⟩ := k
    cases kh with
    | zero => exact absurd rfl hk0
    | succ kh =>
      show ((Tr.kids kt).map fun c => (⟨kh, c⟩ : AT)).length ≠ 0
      rw [List.length_map]
      have : 0 < kt.2.length := this.2.1
      show kt.2.length ≠ 0
      omega
  ·have e1 : (nd b.h b.t).Ks = b.kids.map fun k => k.nd.Ks.getD 0 default := AT.keys_eq f.1 h0
   have e2 : (b.kids.map fun k => k.nd.Ks.getD 0 default)[i]? = some (k.nd.Ks.getD 0 default) := by rw [List.getElem?_map, hk]; rfl
   rw [e1, getD_at e2]
   rfl
theorem ziu {a : AT} {M : List EntD} (h : Has a.h a.t M) : AllGood a := by
 intro P i b hP hb
 have hf : a.Fine := ⟨h.ok, by have : a.ents = M := h.row; rw [this]; exact h.asc⟩
 have hbf := zjE hP hf b (List.mem_of_getElem? hb)
 obtain ⟨Q', rfl, hg⟩ := zjD hP (show a.Root from h.size)
 cases i with
 | zero =>
   obtain rfl : a = b := Option.some.inj hb
   exact zlP hbf (by rw [if_pos (by decide)]; exact AT.Root.len h.size h.ok)
 | succ i =>
   have hbg := hg b (List.mem_of_getElem? (show Q'[i]? = some b from hb))
   exact zlP hbf (by rw [if_neg (by simp)]; exact AT.Good.len hbg hbf.1)
theorem zms (tg : Nat) (n : Int) (w : World) (hB : Rd1 w (blk tg [.pointer none, .int .i64 n] 55)) :
 Calls Tryz.prog 32 [.pointer (some ⟨tg, 0, none⟩)].toArray w fun e w' => e = .returned (.int .i64 (if n = 0 then 0 else 5)) ∧ Below w.heap.size w w' := by
 refine zab T [] [] [blk tg [.pointer none, .int .i64 n] 55] Tryz.func32 rfl Tryz.ntmps32 rfl (Rds.cons hB .nil).kn ?_
 (repeat' (first | (refine gH ?_; try intro _) | (refine g_mv rfl ?_; refine cb (fun w hk => zdr tg (.pointer none) n w (hk.rR mE)) ?_) | (refine g_mv rfl ?_; refine cb (fun w hk => zcS tg (.pointer none) n w (hk.rR mE)) ?_) | (refine gS ?_ ?_ <;> intro _) | fail))
 all_goals
  refine zad hT rfl rfl (.tmp rfl .nil) (fun w' hk => ?_)
  refine ⟨?_, hk.toBelow⟩
  split <;> first | rfl | (exfalso; omega)
theorem zmt (a : Option AT) (M : List EntD) (tg : Nat) (n : Int) (w : World) (hh : HasO a M) (h9 : M.length ≤ 160) (hM : ∀ e ∈ M, e.k.Bd) (hB : Rd1 w (blk tg [rootV a, .int .i64 n] 55)) (hF : Rd1 w (stF a)) :
 Calls Tryz.prog 32 [.pointer (some ⟨tg, 0, none⟩)].toArray w fun e w' => e = .returned (.int .i64 (if (M.length : Int) = n then 0 else 5)) ∧ Below w.heap.size w w' := by
 cases a with
 | none =>
   obtain rfl : M = [] := hh
   refine (zms tg n w hB).mono fun e w' ⟨h1, h2⟩ => ⟨?_, h2⟩
   rw [h1]
   by_cases h : n = 0
   ·rw [if_pos h, if_pos (by rw [h]; rfl)]
   ·rw [if_neg h, if_neg (fun h' => h h'.symm)]
 | some a =>
   have hH : Has a.h a.t M := hh
   have hlow := hH.low h9
   have hcnt : a.cnt ≤ M.length / 2 + 1 := zmy hH
   have hf : a.Fine := ⟨hH.ok, by have : a.ents = M := hH.row; rw [this]; exact hH.asc⟩
   have hrows : rows (lvs a.h a.t) = M := by rw [zi3]; exact hH.row
   refine (zmu a tg n ⟨0, 0, 0⟩ maxK (lvs a.h a.t) M w rfl rfl (zoG a.h a.t hH.ok) (by omega) (by omega) (fun P i hP q hq => ?_) (fun _ => ⟨⟨zlL hh, by omega, zlt a.h a.t hH.ok (zlL hh).ks (fun e he => hM e (by rw [← hH.row]; exact he))⟩, zmW (by rw [hrows]; exact hH.asc), by rw [hrows]; omega, by rw [hrows]; exact zmU hM⟩) hB hF).mono ?_
   ·have hqf := zjE hP hf q hq
    have hq6 : (nd q.h q.t).Ks.length ≤ 6 := by
     obtain ⟨Q', rfl, hg⟩ := zjD hP (show a.Root from hH.size)
     rcases List.mem_cons.1 hq with rfl | hq
     ·exact (AT.Root.len hH.size hH.ok).2
     ·exact (AT.Good.len (hg q hq) hqf.1).2
    refine ⟨by omega, ?_⟩
    obtain ⟨h, t⟩ := q
    cases h with
    | zero =>
      have ok' : IsLeafW t.2 t.1 := hqf.1.1
      have e1 : t.1.Vs.length = t.1.Ks.length := by rw [ok'.Vs, ok'.Ks, List.length_map, List.length_map]
      show t.1.Vs.length ≤ 1000
      have : t.1.Ks.length ≤ 6 := hq6
      omega
    | succ h =>
      have ok' : t.1.Vs = [] := hqf.1.1.Vs
      show t.1.Vs.length ≤ 1000
      rw [ok']
      exact Nat.zero_le _
   ·rintro e w' ⟨r, hr, he, hf'⟩
    refine ⟨?_, hf'.bel⟩
    rw [he]
    have hall := ziu hH
    rcases hr with ⟨P, i, b, h1, h2, _, h3, _⟩ | ⟨_, rfl⟩
    ·exact absurd (hall P i b h1 h2) h3
    ·unfold entR
     rw [if_pos (zan hH.asc)]
end Go.Proofs.YtaghmffgoomebaaGreat.Ck
namespace Go.Proofs.YtaghmffgoomebaaGreat.St
open Go.RowKit Mem Gx Bytes Dk Al Rf Hp Nd Ch Tw
open Tr hiding T row
set_option maxRecDepth 100000
set_option maxHeartbeats 4000000
theorem asc_of {L : List EntD} (h : AscK (keysOf L)) : Asc L := fun i h0 hi => by
 have k := h (i - 1) i (by omega) (by rw [List.length_map]; exact hi)
 rw [List.getD_eq_getElem?_getD, List.getD_eq_getElem?_getD, List.getElem?_map, List.getElem?_map, List.getElem?_eq_getElem hi, List.getElem?_eq_getElem (show i - 1 < L.length by omega)] at k
 rw [List.getD_eq_getElem?_getD, List.getD_eq_getElem?_getD, List.getElem?_eq_getElem hi, List.getElem?_eq_getElem (show i - 1 < L.length by omega)]
 exact k
theorem zj2 {h : Nat} (t : Tr.T (h + 1)) (ok : Tr.Ok (h + 1) t) (h6 : t.2.length ≤ 6) (hb : ∀ e ∈ ents (h + 1) t, e.Bd) (ha : AscK (keysOf (ents (h + 1) t))) (h94 : ∀ d ∈ nds (h + 1) t, 0 < d.a ∧ d.a ≤ 94) (IH : ∀ k ∈ t.2, LoadC h k) : LoadC (h + 1) t := by
 have hKs : t.1.Ks = t.2.map (fun k => (nd h k).Ks.getD 0 default) := by
  have e : t.1.Ks = (t.2.map (nd h)).map (fun x => x.Ks.getD 0 default) := ok.1.Ks
  rw [e, List.map_map]
  rfl
 have hkk : keysOf (kidE h t.2) = t.1.Ks := by
  rw [hKs]
  unfold kidE keysOf
  rw [List.map_map]
  rfl
 have hlen : (kidE h t.2).length = t.2.length := List.length_map ..
 have h1 : 0 < t.2.length := ok.2.1
 have hAsc : Asc (kidE h t.2) := asc_of (by rw [hkk]; exact zdR (h + 1) t ok ha)
 have hEb : ∀ e ∈ kidE h t.2, e.Bd ∧ e.a ≠ 0 := fun e he => by
  obtain ⟨k, hk, rfl⟩ := List.mem_map.1 he
  obtain ⟨a1, a2⟩ := h94 (nd h k) (zbG hk (zbt h k))
  refine ⟨⟨?_, ⟨by show 0 ≤ (nd h k).a; omega, by show (nd h k).a < 4294967296; omega⟩⟩, by show (nd h k).a ≠ 0; omega⟩
  show ((nd h k).Ks.getD 0 default).Bd
  obtain ⟨f1, f2⟩ := zaM h k (ok.2.2 k hk)
  obtain ⟨y, r, g1, g2⟩ := zbm f1
  rw [f2, g2]
  exact (hb y (List.mem_flatten.2 ⟨_, List.mem_map.2 ⟨k, hk, rfl⟩, by rw [g1]; exact .head _⟩)).k
 have P := zg6 (k := 4) (.inr rfl) (fun e he => (hEb e he).1) (by rw [hlen]; exact h1) (by rw [hlen]; exact h6) hAsc (fun _ e he => (hEb e he).2)
 obtain ⟨a1, a2⟩ := h94 t.1 (.head _)
 obtain ⟨b, hbe⟩ := Int.eq_ofNat_of_zero_le (Int.le_of_lt a1)
 unfold LoadC
 intro lb g deep s sv lv S W w hM hnd hdp1 hdp2 hl hn1 hn2 hD hW hSl hdsk hdk hdis hp
 have hX : dread (S.map SecD.L) (W.map WrD.c) (b + 4 + 1) = Page.page 4 (nodeB (kidE h t.2)) := by
  have h1 : dread (S.map SecD.L) (W.map WrD.c) (t.1.a.toNat + 4 + 1) = Page.page 4 (nodeB (kidE h t.2)) := hdsk.1
  rw [hbe] at h1
  exact h1
 rw [← hX] at P
 have e3 : (nd (h + 1) t).a = (b : Int) := hbe
 rw [e3]
 have hnd' : (s.U ++ ((b : Int) :: (t.2.map (pre h)).flatten)).Nodup := by rw [← hbe]; exact hnd
 exact zln t t.2 (kidE h t.2) lb g b deep s sv lv S W w rfl hbe rfl (by rw [hlen]; exact h6) hM hnd' (by omega) hdp2 hl hn1 hn2 (by omega) (by omega) hSl hD hW P IH hdsk.2 hdk hdis hp
theorem zlp : ∀ (h : Nat) (t : Tr.T h), Tr.Ok h t → Six h t → (∀ e ∈ ents h t, e.Bd) → AscK (keysOf (ents h t)) → (∀ d ∈ nds h t, 0 < d.a ∧ d.a ≤ 94) → LoadC h t := by
 intro h
 induction h with
 | zero =>
   intro t ok h6 hb ha h94
   exact zlo t t.2 rfl ok h6 hb ha (h94 t.1 (.head _))
 | succ h ih =>
   intro t ok h6 hb ha h94
   exact zj2 t ok h6.1 hb ha h94 fun k hk => ih k (ok.2.2 k hk) (h6.2 k hk) (fun e he => hb e (List.mem_flatten.2 ⟨_, List.mem_map.2 ⟨k, hk, rfl⟩, he⟩)) (zmK ha hk) fun d hd => h94 d (zbG hk hd)
theorem uv_nil : MapIs ([] : List (Int × Value)) (uV []) := MapIs.nil.congr fun k => by simp [uV]
theorem zm1 (r : Value) (n : Int) (w : World) (hr : ∃ a, r = .pointer a) : Calls Tryz.prog 31 [r, .int .i64 n].toArray w (Ret (fun _ : Nat => True) (fun t => .pointer (some ⟨t, 0, none⟩)) (fun t => [blk t [r, .int .i64 n] 55]) w) := by
 obtain ⟨a, rfl⟩ := hr
 refine zab T [] [] [] Tryz.func31 rfl Tryz.ntmps31 rfl (Kn.start _) ?_
 (repeat (refine gG ?_; try intro _))
 rename_i t
 refine zad hT rfl rfl (.tmp rfl .nil) (fun w' hk => ?_)
 exact Ret.mk t trivial rfl hk sA
theorem zny (h : Nat) (t : Tr.T h) (M : List EntD) (g : Nat) (sv lv : Value) (S : List SecD) (W : List WrD) (w : World) (H : Has h t M) (hM9 : M.length ≤ 160) (hN9 : (nds h t).length ≤ 900) (hb : ∀ e ∈ M, e.Bd) (h94 : ∀ d ∈ nds h t, 0 < d.a ∧ d.a ≤ 94) (hnd : (pl h t).Nodup) (hD : DkOk S W) (hW : W.length ≤ 100000) (hSl : S.length = 100) (hdsk : Dsk (fun y : Nat => dread (S.map SecD.L) (W.map WrD.c) (y + 4 + 1)) h t) (hdk : Rd1 w (dkF g ⟨sv, lv, S, W⟩)) :
 Calls Tryz.prog 11 [.int .u32 (nd h t).a, .agg #[.pointer (some ⟨g, 0, none⟩), .int .i64 ((4 : Nat) : Int)]].toArray w (Ret (fun q : Nat × Tr.T h × Option Addr × Nat => LdT h t q.2.1 ∧ (SlV.mk q.2.2.1 (pl h t).length q.2.2.2).Ok (pl h t).length) (fun q => .tuple #[.pointer (some ⟨q.1, 0, none⟩), .slice q.2.2.1 (pl h t).length q.2.2.2, .int .i64 0]) (fun q => [blk q.1 [.pointer (some ⟨(nd h q.2.1).g, 0, none⟩), .int .i64 (M.length : Int)] 55, sl q.2.2.1 1 (IE .u32) (pl h t), treeF h q.2.1]) w) := by
 obtain ⟨a1, a2⟩ := h94 (nd h t) (zbt h t)
 have hh4 := Has.low H hM9
 have hpl : (pl h t).length = (nds h t).length := (zcX h t).length_eq.symm.trans (zf4 h t)
 have hLC := zlp h t H.ok (ziK h t H.size) (by rw [H.row]; exact hb) (by rw [H.row]; exact H.asc) h94
 have hnp : (pre h t).Nodup := (zcX h t).nodup_iff.2 hnd
 have hcall := fun lb r w h1 h2 h3 => hLC lb g 16 (⟨r, [], [], none, 0, [], 0⟩ : LdS) sv lv S W w uv_nil (by show ([] ++ pre h t).Nodup; exact hnp) (by omega) (by decide) (by show 0 + _ ≤ 1000; omega) (Int.le_refl _) (by show 0 + _ ≤ (100000 : Int); rw [H.row]; omega) hD hW hSl hdsk h1 h2 h3
 refine zab T [] [] [dkF g ⟨sv, lv, S, W⟩] Tryz.func11 rfl Tryz.ntmps11 rfl (Rds.cons hdk .nil).kn ?_
 refine zbO 0 26 1 (IE .u32) ?_
 (repeat' (first | (refine gH ?_; try intro _) | (refine gS ?_ ?_ <;> intro _) | fail))
 refine g_mv rfl (zdd rfl (Value.int .u32) rfl (fun r => ?_))
 (repeat (refine gG ?_; try intro _))
 rename_i lb
 refine zcD (ldL lb g (⟨r, [], [], none, 0, [], 0⟩ : LdS)) [] sA ?_
 refine g_mv rfl (zax (φ := packF (ldL lb g (⟨r, [], [], none, 0, [], 0⟩ : LdS))) (ψ := fun x : LdS × Tr.T h => packF (ldL lb g x.1 ++ [treeF h x.2])) (fun w hk => by exact hcall lb r w (hk.rR (φ := dkF g ⟨sv, lv, S, W⟩) mE) (fun b hb => hk.disR _ mE (dkF g ⟨sv, lv, S, W⟩) mE b hb) (hk.rO (φ := packF (ldL lb g (⟨r, [], [], none, 0, [], 0⟩ : LdS))) mE)) rfl rfl rfl rfl rfl kR uD (fun x hx => ?_))
 obtain ⟨⟨r1, M1, U1, A1, k1, l1, n1⟩, v⟩ := x
 have hxl : l1 = pl h t := hx.l
 have hxn : n1 = (M.length : Int) := by have h1 : n1 = 0 + ((ents h t).length : Int) := hx.n; rw [h1, H.row]; omega
 subst hxl hxn
 have hHv : Has h v M := zlx hx.u H
 refine zbJ (l := ldL lb g ⟨r1, M1, U1, A1, k1, pl h t, (M.length : Int)⟩ ++ [treeF h v]) sE ?_
 dsimp only [ldL, List.cons_append, List.nil_append]
 (repeat' (first | (refine gH ?_; try intro _) | (refine gS ?_ ?_ <;> intro _) | fail))
 refine cR (fun w hk => zm1 (.pointer (some ⟨(nd h v).g, 0, none⟩)) (M.length : Int) w ⟨_, rfl⟩) (fun tg _ => ?_)
 (repeat (refine gG ?_; try intro _))
 refine zbE (.slice A1 (pl h t).length k1) uD (fun A' c' e f1 f2 f3 => ?_)
 injection e with eA _ ec
 subst eA
 subst ec
 have hck := fun w h1 h2 => Ck.zmt (some (⟨h, v⟩ : AT)) M tg (M.length : Int) w hHv hM9 (fun e he => (hb e he).k) h1 h2
 simp only [if_pos] at hck
 refine cB (fun w hk => hck w (hk.rO (φ := blk tg [.pointer (some ⟨(nd h v).g, 0, none⟩), .int .i64 (M.length : Int)] 55) mE) ((zhy (⟨h, v⟩ : AT)).rd fun ψ hψ => by obtain rfl := m1 hψ; exact hk.rO (φ := treeF h v) mE)) ?_
 (repeat' (first | (refine gH ?_; try intro _) | (refine gS ?_ ?_ <;> intro _) | fail))
 refine zaP [0, 1, 2, 3] rfl rfl kR ?_
 (repeat (first | refine zbC dK ?_ | refine zae dK rfl rfl (zcc (nw := true) hT rfl sI) sF ?_ | refine za5 dK rfl rfl sF ?_ | refine zae dK rfl rfl (zbp hT rfl rfl mE rfl rfl) sF ?_ | refine zae dK rfl rfl (zbn hT rfl rfl mE rfl rfl) sF ?_ | refine zae dK rfl rfl (za1 hT rfl rfl mE rfl rfl) sF ?_ | (refine zcm dK rfl ?_; (first | (refine zaT rfl rfl rfl rfl ?_; intro _) | (refine zay rfl hT rfl rfl ?_; intro _) | refine zat hT rfl rfl rfl rfl rfl rfl sO rfl ?_ | (refine zaa rfl hT rfl rfl rfl rfl rfl rfl rfl rfl ?_; intro _)); refine ⟨sF, ?_⟩) | refine zae dK rfl rfl (zby rfl rfl rfl rfl rfl kR) sF ?_ | refine zae dK rfl rfl (za8 rfl rfl rfl rfl rfl kR) sF ?_))
 (repeat (refine gG ?_; try intro _))
 refine zad hT rfl rfl (.tmp rfl (.tmp rfl (.tmp rfl .nil))) (fun w' hk => ?_)
 exact Ret.mk ((tg, v, A1, k1) : Nat × Tr.T h × Option Addr × Nat) ⟨hx.u, ⟨rfl, f1, f2, f3⟩⟩ rfl hk sA
end Go.Proofs.YtaghmffgoomebaaGreat.St
