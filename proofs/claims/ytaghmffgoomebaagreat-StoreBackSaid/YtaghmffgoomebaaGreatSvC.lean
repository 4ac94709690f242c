/- store's loader: a node and all below it. -/
import Derived.Test.YtaghmffgoomebaaGreatStI
import Derived.Test.YtaghmffgoomebaaGreatSvB
import Derived.Test.YtaghmffgoomebaaGreatSv5
set_option linter.unusedVariables false
set_option linter.unusedSimpArgs false
namespace Go.Proofs.YtaghmffgoomebaaGreat.St
open Go.RowKit Mem Gx Bytes Dk Al Rf Hp Nd Ch Tw
open Tr hiding T row
set_option maxRecDepth 100000
set_option maxHeartbeats 8000000
structure LdR (h : Nat) (t : Tr.T h) (s : LdS) (x : LdS × Tr.T h) : Prop where
 m : MapIs x.1.M (uV x.1.U)
 U : x.1.U = s.U ++ pre h t
 l : x.1.l = s.l ++ pl h t
 n : x.1.n = s.n + ((ents h t).length : Int)
 u : LdT h t x.2
structure LdRL (h : Nat) (ks : List (Tr.T h)) (s : LdS) (q : LdS) (us : List (Tr.T h)) : Prop where
 m : MapIs q.M (uV q.U)
 U : q.U = s.U ++ (ks.map (pre h)).flatten
 l : q.l = s.l ++ (ks.map (pl h)).flatten
 n : q.n = s.n + (((ks.map (ents h)).flatten).length : Int)
 len : us.length = ks.length
 u : ∀ (i : Nat) (k v : Tr.T h), ks[i]? = some k → us[i]? = some v → LdT h k v
theorem LdRL.nil {h : Nat} {s : LdS} (hm : MapIs s.M (uV s.U)) : LdRL h [] s s [] := ⟨hm, by simp, by simp, by simp, rfl, fun i k v h => by cases h⟩
theorem LdRL.snoc {h : Nat} {ks : List (Tr.T h)} {s q : LdS} {us : List (Tr.T h)} {k : Tr.T h} {x : LdS × Tr.T h} (H : LdRL h ks s q us) (hx : LdR h k q x) : LdRL h (ks ++ [k]) s x.1 (us ++ [x.2]) := by
 refine ⟨hx.m, ?_, ?_, ?_, by rw [List.length_append, List.length_append, H.len]; rfl, fun i k' v h1 h2 => ?_⟩
 ·rw [hx.U, H.U, List.map_append, List.flatten_append, List.append_assoc]
  simp
 ·rw [hx.l, H.l, List.map_append, List.flatten_append, List.append_assoc]
  simp
 ·rw [hx.n, H.n, List.map_append, List.flatten_append, List.length_append]
  simp
  omega
 ·by_cases hi : i < ks.length
  ·rw [List.getElem?_append_left hi] at h1
   rw [List.getElem?_append_left (by rw [H.len]; exact hi)] at h2
   exact H.u i k' v h1 h2
  ·have h3 := (List.getElem?_eq_some_iff.1 h1).1
   rw [List.length_append] at h3
   have h3' : i < ks.length + 1 := h3
   obtain rfl : i = ks.length := by omega
   rw [List.getElem?_append_right (Nat.le_refl _), Nat.sub_self] at h1
   rw [List.getElem?_append_right (by rw [H.len]; exact Nat.le_refl _), H.len, Nat.sub_self] at h2
   obtain rfl := Option.some.inj h1
   obtain rfl := Option.some.inj h2
   exact hx.u
def LoadC (h : Nat) (t : Tr.T h) : Prop := ∀ (lb g : Nat) (deep : Int) (s : LdS) (sv lv : Value) (S : List SecD) (W : List WrD) (w : World), MapIs s.M (uV s.U) → (s.U ++ pre h t).Nodup → (h : Int) + 1 ≤ deep → deep ≤ 1000 → s.l.length + (nds h t).length ≤ 1000 → 0 ≤ s.n → s.n + ((ents h t).length : Int) ≤ 100000 → DkOk S W → W.length ≤ 100000 → S.length = 100 → Dsk (fun y : Nat => dread (S.map SecD.L) (W.map WrD.c) (y + 4 + 1)) h t →
 Rd1 w (dkF g ⟨sv, lv, S, W⟩) → (∀ x, (packF (ldL lb g s)).S x → ¬ (dkF g ⟨sv, lv, S, W⟩).S x) → Rd1 w (packF (ldL lb g s)) →
 Calls Tryz.prog 30 [.pointer (some ⟨lb, 0, none⟩), .int .u32 (nd h t).a, .int .i64 deep].toArray w (RetM (packF (ldL lb g s)) (LdR h t s) (fun x => .tuple #[.pointer (some ⟨(nd h x.2).g, 0, none⟩), .int .i64 0]) (fun x => packF (ldL lb g x.1 ++ [treeF h x.2])) w)
theorem zg8 {A B : List Fact} : (∀ w : World, (packF (A ++ B)).p w → (packF (A ++ [allF B id])).p w) ∧ ∀ b, (packF (A ++ [allF B id])).S b → (packF (A ++ B)).S b := by
 refine ⟨fun w hw => ⟨?_, fun φ hφ => ?_⟩, fun b ⟨φ, hφ, hb⟩ => ?_⟩
 ·have h1 := List.pairwise_append.1 hw.1
  refine List.pairwise_append.2 ⟨h1.1, List.pairwise_singleton _ _, fun φ hφ ψ hψ b hb hb2 => ?_⟩
  obtain rfl := m1 hψ
  obtain ⟨χ, hχ, hb3⟩ := hb2
  exact h1.2.2 φ hφ χ hχ b hb hb3
 ·rcases List.mem_append.1 hφ with hφ | hφ
  ·exact hw.2 φ (List.mem_append_left _ hφ)
  ·obtain rfl := m1 hφ
   exact fun χ hχ => hw.2 χ (List.mem_append_right _ hχ)
 ·rcases List.mem_append.1 hφ with hφ | hφ
  ·exact ⟨φ, List.mem_append_left _ hφ, hb⟩
  ·obtain rfl := m1 hφ
   obtain ⟨χ, hχ, hb⟩ := hb
   exact ⟨χ, List.mem_append_right _ hχ, hb⟩
theorem zkP {σ τ : Type} {φ : Fact} {I : σ → Prop} {J : τ → Prop} {V : σ → Value} {V' : τ → Value} {A B : σ → List Fact} {C : τ → List Fact} {w w' : World} {e : Ending} (f : σ → τ) (h : RetM φ I V (fun s => packF (A s ++ B s)) w e w') (hJ : ∀ s, I s → J (f s)) (hV : ∀ s, V s = V' (f s)) (hC : ∀ s, I s → C (f s) = A s ++ [allF (B s) id]) : RetM φ J V' (fun s => packF (C s)) w e w' := by
 obtain ⟨s, hi, he, hm⟩ := h
 refine ⟨f s, hJ s hi, by rw [he, hV], ?_⟩
 dsimp only
 rw [hC s hi]
 exact ⟨hm.os, hm.tape, hm.output, hm.size, hm.block, zg8.1 w' hm.p, fun b hb => hm.S b (zg8.2 b hb)⟩
theorem zlo (t : Tr.T 0) (E : List EntD) (e2 : t.2 = E) (ok : Tr.Ok 0 t) (h6 : E.length ≤ 6) (hb : ∀ e ∈ E, e.Bd) (ha : AscK (keysOf E)) (h94 : 0 < t.1.a ∧ t.1.a ≤ 94) : LoadC 0 t := by
 unfold LoadC
 intro lb g deep s sv lv S W w hM hnd hdp1 hdp2 hl hn1 hn2 hD hW hSl hdsk hdk hdis hp
 obtain ⟨b, hbe⟩ := Int.eq_ofNat_of_zero_le (Int.le_of_lt h94.1)
 have hE1 : 0 < E.length := e2 ▸ ok.2
 have hX : dread (S.map SecD.L) (W.map WrD.c) (b + 4 + 1) = Page.page 3 (nodeB E) := by
  have h1 : dread (S.map SecD.L) (W.map WrD.c) (t.1.a.toNat + 4 + 1) = Page.page 3 (nodeB t.2) := hdsk
  rw [hbe, e2] at h1
  exact h1
 have P : PgOf 3 E (Page.page 3 (nodeB E)) := zg6 (.inl rfl) hb hE1 h6 (fun i h0 hi => by
  have k := ha (i - 1) i (by omega) (by rw [List.length_map]; exact hi)
  rw [List.getD_eq_getElem?_getD, List.getD_eq_getElem?_getD, List.getElem?_map, List.getElem?_map, List.getElem?_eq_getElem hi, List.getElem?_eq_getElem (show i - 1 < E.length by omega)] at k
  rw [List.getD_eq_getElem?_getD, List.getD_eq_getElem?_getD, List.getElem?_eq_getElem hi, List.getElem?_eq_getElem (show i - 1 < E.length by omega)]
  exact k) (fun h => by omega)
 have hpre : (s.U ++ [t.1.a]).Nodup := hnd
 have hnm : ¬ (b : Int) ∈ s.U := fun hm => (List.nodup_append.1 hpre).2.2 _ hm _ (.head _) hbe.symm
 have hn94 : b ≤ 94 := by omega
 have hb1 : 1 ≤ b := by omega
 have key := zj3 lb g b deep s sv lv S W w hM hnm (by omega) (by have : s.l.length + 1 ≤ 1000 := hl; omega) ⟨hn1, by have := hn2; omega⟩ hb1 (by omega) hD hW (by rw [hX]; exact P.ok) (by rw [hX]; exact P.c) (by rw [hX]; exact P.k) hdk hdis hp
 rw [hX, P.e] at key
 have e3 : (nd 0 t).a = (b : Int) := hbe
 rw [e3]
 refine key.mono fun e w' h => zkP (τ := LdS × Tr.T 0) (C := fun x => ldL lb g x.1 ++ [treeF 0 x.2]) (fun q => (q.1, ((q.2, E) : NodeD × List EntD))) h (fun q hq => ⟨by rw [hq.U]; exact hq.m, ?_, ?_, ?_, ⟨⟨?_, hq.d.leaf, ?_, ?_, hq.d.Cs, hq.d.vg⟩, ?_, e2.symm⟩⟩) (fun q => rfl) (fun q hq => rfl)
 ·rw [hq.U]; show _ = s.U ++ [t.1.a]; rw [hbe]
 ·rw [hq.l]; show _ = s.l ++ [t.1.a]; rw [hbe]
 ·rw [hq.n]; show _ = s.n + ((t.2.length : Nat) : Int); rw [e2]
 ·exact hq.d.ok
 ·rw [e2]; exact hq.d.Ks
 ·rw [e2]; exact hq.d.Vs
 ·rw [hbe]; exact hq.d.a
theorem zk5 {α : Type} {φ : Fact} {F : α → Fact} : (∀ w : World, φ.p w → (packF [φ, allF ([] : List α) F]).p w) ∧ ∀ b, (packF [φ, allF ([] : List α) F]).S b → φ.S b := by
 refine ⟨fun w hw => ⟨List.pairwise_cons.2 ⟨fun ψ hψ b hb hb2 => ?_, List.pairwise_singleton _ _⟩, fun ψ hψ => ?_⟩, fun b ⟨ψ, hψ, hb⟩ => ?_⟩
 ·obtain rfl := m1 hψ
  obtain ⟨x, hx, _⟩ := hb2
  cases hx
 ·rcases List.mem_cons.1 hψ with rfl | hψ
  ·exact hw
  ·obtain rfl := m1 hψ
   exact fun x hx => (by cases hx)
 ·rcases List.mem_cons.1 hψ with rfl | hψ
  ·exact hb
  ·obtain rfl := m1 hψ
   obtain ⟨x, hx, _⟩ := hb
   cases hx
theorem zes {α : Type} {F : α → Fact} {l : List α} {x : α} : (∀ w : World, (packF [allF l F, F x]).p w → (allF (l ++ [x]) F).p w) ∧ ∀ b, (allF (l ++ [x]) F).S b → (packF [allF l F, F x]).S b := by
 refine ⟨fun w hw y hy => ?_, fun b ⟨y, hy, hb⟩ => ?_⟩
 ·rcases List.mem_append.1 hy with hy | hy
  ·exact hw.2 (allF l F) (.head _) y hy
  ·obtain rfl := m1 hy
   exact hw.2 (F y) (.tail _ (.head _))
 ·rcases List.mem_append.1 hy with hy | hy
  ·exact ⟨allF l F, .head _, y, hy, hb⟩
  ·obtain rfl := m1 hy
   exact ⟨F y, .tail _ (.head _), hb⟩
theorem ziU {l : List Fact} : (∀ w : World, (packF l).p w → (allF l id).p w) ∧ ∀ b, (allF l id).S b → (packF l).S b := ⟨fun w hw φ hφ => hw.2 φ hφ, fun b ⟨φ, hφ, hb⟩ => ⟨φ, hφ, hb⟩⟩
theorem zhb (d : NodeD) : (∀ w : World, (packF d.fs).p w → (nodeF d).p w) ∧ ∀ b, (nodeF d).S b → (packF d.fs).S b := ziU
theorem zgM {h : Nat} (t : Tr.T (h + 1)) : (∀ w : World, (packF [nodeF t.1, allF t.2 (treeF h)]).p w → (treeF (h + 1) t).p w) ∧ ∀ b, (treeF (h + 1) t).S b → (packF [nodeF t.1, allF t.2 (treeF h)]).S b := ziU
theorem zhv {α β : Type} (f : α → List β) {ks : List α} {i : Nat} {k : α} (hk : ks[i]? = some k) : (((ks.take i).map f).flatten).length + (f k).length ≤ ((ks.map f).flatten).length := by
 have e : ∀ l : List α, ((l.map f).flatten).length = (l.map fun x => (f x).length).sum := fun l => by rw [List.length_flatten, List.map_map]; rfl
 rw [e, e]
 exact zhF (fun x => (f x).length) ks i hk
theorem zk2 {h : Nat} (l : List (Tr.T h)) : ((l.map (pl h)).flatten).length = ((l.map (nds h)).flatten).length := by
 rw [List.length_flatten, List.length_flatten, List.map_map, List.map_map]
 congr 1
 exact List.map_congr_left fun k _ => ((zcX h k).length_eq.symm.trans (zf4 h k))
theorem zln {h : Nat} (t : Tr.T (h + 1)) (ks : List (Tr.T h)) (E : List EntD) (lb g b : Nat) (deep : Int) (s : LdS) (sv lv : Value) (S : List SecD) (W : List WrD) (w : World) (hte : t.2 = ks) (hta : t.1.a = (b : Int)) (hE : E = kidE h ks) (h6 : E.length ≤ 6)
 (hu : MapIs s.M (uV s.U)) (hnd : (s.U ++ ((b : Int) :: (ks.map (pre h)).flatten)).Nodup) (hdp : (h : Int) + 2 ≤ deep) (hdp2 : deep ≤ 1000) (hl9 : s.l.length + (((ks.map (nds h)).flatten).length + 1) ≤ 1000) (hn9 : 0 ≤ s.n) (hn8 : s.n + (((ks.map (ents h)).flatten).length : Int) ≤ 100000) (hb1 : 1 ≤ b) (hb94 : b ≤ 94) (hSl : S.length = 100) (hD : DkOk S W) (hW : W.length ≤ 100000)
 (P : PgOf 4 E (dread (S.map SecD.L) (W.map WrD.c) (b + 4 + 1))) (IH : ∀ k ∈ ks, LoadC h k) (hdsk : ∀ k ∈ ks, Dsk (fun y : Nat => dread (S.map SecD.L) (W.map WrD.c) (y + 4 + 1)) h k)
 (hdk : Rd1 w (dkF g ⟨sv, lv, S, W⟩)) (hdis : ∀ x, (packF (ldL lb g s)).S x → ¬ (dkF g ⟨sv, lv, S, W⟩).S x) (hp : Rd1 w (packF (ldL lb g s))) :
 Calls Tryz.prog 30 [.pointer (some ⟨lb, 0, none⟩), .int .u32 (b : Nat), .int .i64 deep].toArray w (RetM (packF (ldL lb g s)) (LdR (h + 1) t s) (fun x => .tuple #[.pointer (some ⟨(nd (h + 1) x.2).g, 0, none⟩), .int .i64 0]) (fun x => packF (ldL lb g x.1 ++ [treeF (h + 1) x.2])) w) := by
 have hS9 := hD.n
 have hEl : E.length = ks.length := by rw [hE]; exact List.length_map ..
 have hb : ¬ (b : Int) ∈ s.U := fun hm => (List.nodup_append.1 hnd).2.2 _ hm _ (.head _) rfl
 obtain ⟨r, M, U, A, c, l, n⟩ := s
 dsimp only at hu hb hl9 hn9 hn8 hnd
 have hrd := fun w h => zg3 g 4 sv lv S W b w hD hW hb1 (by omega) (by decide) (by omega) h
 obtain ⟨X, hXe⟩ : ∃ X, X = (dread (S.map SecD.L) (W.map WrD.c) (b + 4 + 1)) := ⟨_, rfl⟩
 rw [← hXe] at P hrd
 have hlf : (Page.getS X).1 ≠ 3 := by rw [P.k]; decide
 refine zab T (finE (packF (ldL lb g ⟨r, M, U, A, c, l, n⟩)) w) [blk lb [.pointer (some ⟨g, 0, none⟩), .int .i64 ((4 : Nat) : Int), .map (some r), .slice A l.length c, .int .i64 n] 81, mpk r (Value.int .u32) M, own 0 26 1 (.slice A l.length c) (IE .u32) l] [dkF g ⟨sv, lv, S, W⟩] Tryz.func30 rfl Tryz.ntmps30 rfl (Kn.startP hp (fun b hb => (zaB hp.2 b).2 hb) (fun ψ hψ => by obtain rfl := m1 hψ; exact ⟨hdk, hdis⟩)) ?_
 (repeat' (first | (refine gH ?_; try intro _) | (refine gS ?_ ?_ <;> intro _) | fail))
 refine g_yd rfl rfl ((zbY (S := [mpk r (Value.int .u32) M]) (b : Int) rfl rfl rfl rfl Tryz.underlying79 zfl zfn (.head _)).ydS sF) ?_
 refine zaK 26 (.int .i64 (if (b : Int) ∈ U then 1 else 0)) rfl (lk_u hu b) ?_
 rw [if_neg hb]
 (repeat' (first | (refine gH ?_; try intro _) | (refine gS ?_ ?_ <;> intro _) | fail))
 refine g_mv rfl (zbV rfl (b : Int) rfl rfl rfl rfl rfl Tryz.underlying79 zfl (by first | ((repeat (first | with_reducible exact Upd.here _ | with_reducible apply Upd.there)); done) | ((repeat (first | exact Upd.here _ | apply Upd.there)); done) | fail) ?_)
 (repeat (refine gG ?_; try intro _))
 refine cR (fun w hk => hrd w (hk.rR (φ := dkF g ⟨sv, lv, S, W⟩) mE)) (fun u hu3 => ?_)
 (repeat' (first | (refine gH ?_; try intro _) | (refine gS ?_ ?_ <;> intro _) | fail))
 refine cR (fun w hk => ziX u.A u.n u.c X w hu3 (hk.pO (sl u.A 1 (IE .u8) X) mE) P.ok.2) (fun rr hr => ?_)
 obtain ⟨⟨⟨rA, rn, rc⟩, RM⟩, rl, re⟩ := rr
 obtain ⟨r1, r2, r3, r4⟩ := hr
 dsimp only [SlV.v] at r1 r2 r3 r4 ⊢
 rw [if_pos P.c] at r3 r4
 rw [P.c] at r2
 rw [zaj hlf] at r4
 replace r3 : E = RM := (r3.trans P.e).symm
 subst r2 r4 r3
 have hrn : rn = E.length := r1.n
 subst hrn
 (repeat' (first | (refine gH ?_; try intro _) | (refine gS ?_ ?_ <;> intro _) | fail))
 refine cR (fun w hk => zeO rA E.length rc E w rfl (by omega) (hk.pO (sl rA 4 EE E) mE)) (fun d hd => ?_)
 obtain ⟨dg, lf, ⟨KA, Km, Kc⟩, Ks, ⟨VA, Vn, Vc⟩, Vs, C0, Cs, da⟩ := d
 obtain ⟨⟨hd0, q1, q2, q3, q4, _, q5⟩, q6⟩ := hd
 dsimp only at q1 q2 q3 q4 q5 q6
 subst q1 q2 q3 q4 q5 q6
 dsimp only [NodeD.fs, NodeD.ptr, SlV.v]
 refine zbw (φ := sl rA 4 EE E) sE ?_
 (repeat' (first | (refine gH ?_; try intro _) | (refine gS ?_ ?_ <;> intro _) | fail))
 refine zbO 0 53 1 PE ?_
 refine zdh (packF [own 0 53 1 (.slice none 0 0) PE ([] : List Nat), allF ([] : List (Tr.T h)) (treeF h)]) (φ := own 0 53 1 (.slice none 0 0) PE ([] : List Nat)) sE zk5.1 zk5.2 ?_
 refine zbM (l := [own 0 53 1 (.slice none 0 0) PE ([] : List Nat), allF ([] : List (Tr.T h)) (treeF h)]) sE ?_
 dsimp only [List.cons_append, List.nil_append]
 refine zap (fun (q : Nat × LdS × (List (Tr.T h)) × (Option Addr) × Nat) => match q with | (i, q, us, pA, pc) => i ≤ ks.length ∧ LdRL h (ks.take i) (⟨r, msG (b : Int) (.int .i64 1) M, U ++ [(b : Int)], A, c, l, n⟩ : LdS) q us) (fun (q : Nat × LdS × (List (Tr.T h)) × (Option Addr) × Nat) => match q with | (i, q, us, pA, pc) => [(0, .pointer (some ⟨lb, 0, none⟩)), (1, .int .u32 (b : Nat)), (2, .int .i64 deep), (13, .pointer (some ⟨dg, 0, none⟩)), (73, .slice rA E.length rc), (74, .int .i64 (E.length : Nat)), (75, .int .i64 (i : Nat))]) (fun (q : Nat × LdS × (List (Tr.T h)) × (Option Addr) × Nat) => match q with | (i, q, us, pA, pc) => [blk lb [.pointer (some ⟨g, 0, none⟩), .int .i64 ((4 : Nat) : Int), .map (some q.r), .slice q.A q.l.length q.c, .int .i64 q.n] 81, mpk q.r (Value.int .u32) q.M, own 0 26 1 (.slice q.A q.l.length q.c) (IE .u32) q.l, blk dg [.bool false, .slice KA Km Kc, .slice none 0 0, .slice pA (us.map fun k => (nd h k).g).length pc, .int .u32 0] 109, sl KA 3 KE (E.map (fun e : EntD => e.k)), own 0 53 1 (.slice pA (us.map fun k => (nd h k).g).length pc) PE (us.map fun k => (nd h k).g), allF us (treeF h)]) (fun (q : Nat × LdS × (List (Tr.T h)) × (Option Addr) × Nat) => match q with | (i, q, us, pA, pc) => [sl rA 4 EE E, dkF g ⟨sv, lv, S, W⟩]) (fun (q : Nat × LdS × (List (Tr.T h)) × (Option Addr) × Nat) => match q with | (i, q, us, pA, pc) => ks.length - i) (0, (⟨r, msG (b : Int) (.int .i64 1) M, U ++ [(b : Int)], A, c, l, n⟩ : LdS), [], none, 0) rfl ⟨Nat.zero_le _, LdRL.nil (zkv hu)⟩ fS sA sS ?_
 rintro ⟨i, q, us, pA, pc⟩ hI
 replace hI : i ≤ ks.length ∧ LdRL h (ks.take i) (⟨r, msG (b : Int) (.int .i64 1) M, U ++ [(b : Int)], A, c, l, n⟩ : LdS) q us := hI
 change GK _ _ [(0, .pointer (some ⟨lb, 0, none⟩)), (1, .int .u32 (b : Nat)), (2, .int .i64 deep), (13, .pointer (some ⟨dg, 0, none⟩)), (73, .slice rA E.length rc), (74, .int .i64 (E.length : Nat)), (75, .int .i64 (i : Nat))] [blk lb [.pointer (some ⟨g, 0, none⟩), .int .i64 ((4 : Nat) : Int), .map (some q.r), .slice q.A q.l.length q.c, .int .i64 q.n] 81, mpk q.r (Value.int .u32) q.M, own 0 26 1 (.slice q.A q.l.length q.c) (IE .u32) q.l, blk dg [.bool false, .slice KA Km Kc, .slice none 0 0, .slice pA (us.map fun k => (nd h k).g).length pc, .int .u32 0] 109, sl KA 3 KE (E.map (fun e : EntD => e.k)), own 0 53 1 (.slice pA (us.map fun k => (nd h k).g).length pc) PE (us.map fun k => (nd h k).g), allF us (treeF h)] [sl rA 4 EE E, dkF g ⟨sv, lv, S, W⟩]
 obtain ⟨hi, hq⟩ := hI
 by_cases hlt : i < ks.length
 ·--<kid
  obtain ⟨k, hki⟩ : ∃ k, ks[i]? = some k := ⟨ks[i], List.getElem?_eq_getElem hlt⟩
  have hkm := List.mem_of_getElem? hki
  have hEi : E[i]? = some (⟨(nd h k).Ks.getD 0 default, (nd h k).a⟩ : EntD) := by rw [hE]; unfold kidE; rw [List.getElem?_map, hki]; rfl
  have hTk : ks.take (i + 1) = ks.take i ++ [k] := by
   obtain ⟨h1, h2⟩ := List.getElem?_eq_some_iff.1 hki
   rw [List.take_succ_eq_append_getElem h1, h2]
  have hus : us.length = i := by rw [hq.len, List.length_take]; omega
  have b1 := zhv (nds h) hki
  have b2 := zhv (ents h) hki
  have b3 := zk2 (ks.take i)
  have hql : q.l.length = l.length + (((ks.take i).map (pl h)).flatten).length := by rw [hq.l, List.length_append]
  have hqn : q.n = n + ((((ks.take i).map (ents h)).flatten).length : Int) := hq.n
  have hqnd : (q.U ++ pre h k).Nodup := by
   have e : U ++ ((b : Int) :: (ks.map (pre h)).flatten) = (q.U ++ pre h k) ++ ((ks.drop (i + 1)).map (pre h)).flatten := by
    rw [hq.U]
    show _ = (((U ++ [(b : Int)]) ++ _) ++ _) ++ _
    have e2 : (ks.map (pre h)).flatten = ((ks.take i).map (pre h)).flatten ++ (pre h k ++ ((ks.drop (i + 1)).map (pre h)).flatten) := by
     conv => lhs; rw [← List.take_append_drop i ks, ze5 hki, List.map_append, List.flatten_append]
     rfl
    rw [e2]
    simp only [List.append_assoc, List.cons_append, List.nil_append]
   rw [e] at hnd
   exact (List.nodup_append.1 hnd).1
  have hcall := fun w r1 r2 r3 => IH k hkm lb g (deep - 1) q sv lv S W w hq.m hqnd (by omega) (by omega) (by omega) (by rw [hqn]; omega) (by rw [hqn]; omega) hD hW hSl (hdsk k hkm) r1 r2 r3
  have em : ∀ v : Tr.T h, (us.map fun k => (nd h k).g) ++ [(nd h v).g] = (us ++ [v]).map fun k => (nd h k).g := fun v => by rw [List.map_append]; rfl
  have hml : (us.map fun k => (nd h k).g).length = i := by rw [List.length_map, hus]
  refine zar (A := rA) (enc := EE) (L := E) i mE (by omega) (by decide) (fun eg eo y eA hy => ?_)
  subst eA
  obtain rfl := Option.some.inj (hEi.symm.trans hy)
  (repeat' (first | (refine gH ?_; try intro _) | (refine gS ?_ ?_ <;> intro _) | fail))
  refine zaK 82 (.int .u32 (nd h k).a) rfl rfl ?_
  refine zcD (ldL lb g q) [blk dg [.bool false, .slice KA Km Kc, .slice none 0 0, .slice pA (us.map fun k => (nd h k).g).length pc, .int .u32 0] 109, sl KA 3 KE (E.map (fun e : EntD => e.k)), own 0 53 1 (.slice pA (us.map fun k => (nd h k).g).length pc) PE (us.map fun k => (nd h k).g), allF us (treeF h)] sA ?_
  refine g_mv rfl (zax (φ := packF (ldL lb g q)) (ψ := fun x : LdS × Tr.T h => packF (ldL lb g x.1 ++ [treeF h x.2])) (fun w hk => by exact hcall w (hk.rR (φ := dkF g ⟨sv, lv, S, W⟩) mE) (fun b hb => hk.disR _ mE (dkF g ⟨sv, lv, S, W⟩) mE b hb) (hk.rO (φ := packF (ldL lb g q)) mE)) rfl rfl rfl rfl rfl kR uD (fun x hx => ?_))
  obtain ⟨q2, v⟩ := x
  refine zbJ (l := ldL lb g q2 ++ [treeF h v]) sE ?_
  dsimp only [ldL, List.cons_append, List.nil_append]
  (repeat' (first | (refine gH ?_; try intro _) | (refine gS ?_ ?_ <;> intro _) | fail))
  refine g_mv rfl (zac (L := us.map fun k => (nd h k).g) rfl [(nd h v).g] rfl rfl rfl rfl Nd.zij uD (zah mE rfl) rfl (by intro x j; rfl) sM sN (Nat.zero_le _) ?_)
  intro v3
  refine zc5 v3 mE (fun pA2 pc2 hv3 _ _ _ => ?_)
  subst hv3
  rw [em v]
  (repeat' (first | (refine gH ?_; try intro _) | (refine gS ?_ ?_ <;> intro _) | fail))
  refine zbv [allF us (treeF h), treeF h v] (ldL lb g q2 ++ [blk dg [.bool false, .slice KA Km Kc, .slice none 0 0, .slice pA2 ((us ++ [v]).map fun k => (nd h k).g).length pc2, .int .u32 0] 109, sl KA 3 KE (E.map (fun e : EntD => e.k)), own 0 53 1 (.slice pA2 ((us ++ [v]).map fun k => (nd h k).g).length pc2) PE ((us ++ [v]).map fun k => (nd h k).g)]) sA ?_
  refine zdh (allF (us ++ [v]) (treeF h)) (φ := packF [allF us (treeF h), treeF h v]) sE zes.1 zes.2 ?_
  dsimp only [ldL, List.cons_append, List.nil_append]
  refine zag rfl (i + 1, q2, us ++ [v], pA2, pc2) ⟨by omega, by rw [hTk]; exact hq.snoc hx⟩ (by dsimp only; omega) fS sA sS
 have hi' : i = ks.length := by omega
 subst hi'
 rw [List.take_length] at hq
 have hus : us.length = ks.length := hq.len
 have b3 := zk2 ks
 have hql : q.l.length = l.length + ((ks.map (pl h)).flatten).length := by rw [hq.l, List.length_append]
 (repeat' (first | (refine gH ?_; try intro _) | (refine gS ?_ ?_ <;> intro _) | fail))
 refine g_mv rfl (zac (L := q.l) rfl [(b : Int)] rfl rfl rfl rfl Ch.zaO uD (zah mE rfl) rfl Ch.oneU sM sN (Nat.zero_le _) ?_)
 intro v4
 refine zc5 v4 mE (fun A9 k9 hv4 _ _ _ => ?_)
 subst hv4
 (repeat (refine gG ?_; try intro _))
 refine zaW (.slice pA (us.map fun k => (nd h k).g).length pc) uD (fun A' c' e f1 f2 f3 => ?_)
 injection e with eA _ ec
 subst eA
 subst ec
 refine zba none 1 (IE .u32) ?_
 refine zbv [blk dg [.bool false, .slice KA Km Kc, .slice none 0 0, .slice pA (us.map fun k => (nd h k).g).length pc, .int .u32 (b : Int)] 109, sl KA 3 KE (E.map (fun e : EntD => e.k)), sl none 1 (IE .u32) ([] : List Int), sl pA 1 PE (us.map fun k => (nd h k).g)] (ldL lb g (⟨q.r, q.M, q.U, A9, k9, q.l ++ [(b : Int)], q.n⟩ : LdS) ++ [allF us (treeF h)]) sA ?_
 refine zdh (nodeF (⟨dg, false, ⟨KA, Km, Kc⟩, E.map (fun e : EntD => e.k), ⟨none, 0, 0⟩, [], ⟨pA, (us.map fun k => (nd h k).g).length, pc⟩, us.map fun k => (nd h k).g, (b : Int)⟩ : NodeD)) (φ := packF [blk dg [.bool false, .slice KA Km Kc, .slice none 0 0, .slice pA (us.map fun k => (nd h k).g).length pc, .int .u32 (b : Int)] 109, sl KA 3 KE (E.map (fun e : EntD => e.k)), sl none 1 (IE .u32) ([] : List Int), sl pA 1 PE (us.map fun k => (nd h k).g)]) sE (zhb (⟨dg, false, ⟨KA, Km, Kc⟩, E.map (fun e : EntD => e.k), ⟨none, 0, 0⟩, [], ⟨pA, (us.map fun k => (nd h k).g).length, pc⟩, us.map fun k => (nd h k).g, (b : Int)⟩ : NodeD)).1 (zhb (⟨dg, false, ⟨KA, Km, Kc⟩, E.map (fun e : EntD => e.k), ⟨none, 0, 0⟩, [], ⟨pA, (us.map fun k => (nd h k).g).length, pc⟩, us.map fun k => (nd h k).g, (b : Int)⟩ : NodeD)).2 ?_
 dsimp only [ldL, List.cons_append, List.nil_append]
 refine zbv [nodeF (⟨dg, false, ⟨KA, Km, Kc⟩, E.map (fun e : EntD => e.k), ⟨none, 0, 0⟩, [], ⟨pA, (us.map fun k => (nd h k).g).length, pc⟩, us.map fun k => (nd h k).g, (b : Int)⟩ : NodeD), allF us (treeF h)] (ldL lb g (⟨q.r, q.M, q.U, A9, k9, q.l ++ [(b : Int)], q.n⟩ : LdS)) sA ?_
 refine zdh (treeF (h + 1) (((⟨dg, false, ⟨KA, Km, Kc⟩, E.map (fun e : EntD => e.k), ⟨none, 0, 0⟩, [], ⟨pA, (us.map fun k => (nd h k).g).length, pc⟩, us.map fun k => (nd h k).g, (b : Int)⟩ : NodeD), us) : NodeD × List (Tr.T h))) (φ := packF [nodeF (⟨dg, false, ⟨KA, Km, Kc⟩, E.map (fun e : EntD => e.k), ⟨none, 0, 0⟩, [], ⟨pA, (us.map fun k => (nd h k).g).length, pc⟩, us.map fun k => (nd h k).g, (b : Int)⟩ : NodeD), allF us (treeF h)]) sE (zgM (((⟨dg, false, ⟨KA, Km, Kc⟩, E.map (fun e : EntD => e.k), ⟨none, 0, 0⟩, [], ⟨pA, (us.map fun k => (nd h k).g).length, pc⟩, us.map fun k => (nd h k).g, (b : Int)⟩ : NodeD), us) : NodeD × List (Tr.T h))).1 (zgM (((⟨dg, false, ⟨KA, Km, Kc⟩, E.map (fun e : EntD => e.k), ⟨none, 0, 0⟩, [], ⟨pA, (us.map fun k => (nd h k).g).length, pc⟩, us.map fun k => (nd h k).g, (b : Int)⟩ : NodeD), us) : NodeD × List (Tr.T h))).2 ?_
 dsimp only [ldL, List.cons_append, List.nil_append]
 refine zad hT rfl rfl (.tmp rfl (.tmp rfl .nil)) (fun w' hk => ?_)
 exact RetM.mkP (ll := fun x : LdS × Tr.T (h + 1) => ldL lb g x.1 ++ [treeF (h + 1) x.2]) (((⟨q.r, q.M, q.U, A9, k9, q.l ++ [(b : Int)], q.n⟩ : LdS), (((⟨dg, false, ⟨KA, Km, Kc⟩, E.map (fun e : EntD => e.k), ⟨none, 0, 0⟩, [], ⟨pA, (us.map fun k => (nd h k).g).length, pc⟩, us.map fun k => (nd h k).g, (b : Int)⟩ : NodeD), us) : NodeD × List (Tr.T h))) : LdS × Tr.T (h + 1)) ⟨hq.m, by
  show q.U = U ++ (t.1.a :: (t.2.map (pre h)).flatten)
  rw [hq.U, hte, hta]
  show (U ++ [(b : Int)]) ++ _ = _
  rw [List.append_assoc]; rfl, by
  show q.l ++ [(b : Int)] = l ++ ((t.2.map (pl h)).flatten ++ [t.1.a])
  rw [hq.l, hte, hta, ← List.append_assoc], by
  show q.n = n + (((t.2.map (ents h)).flatten).length : Int)
  rw [hq.n, hte], ⟨⟨⟨hd0.K, SlV.zdx, ⟨rfl, f1, f2, f3⟩⟩, rfl, by
   show E.map (·.k) = t.2.map _
   rw [hE, hte]; unfold kidE; rw [List.map_map]; rfl, rfl, rfl⟩, hta.symm, by show us.length = t.2.length; rw [hte]; exact hus, fun i k v h1 h2 => hq.u i k v (hte ▸ h1) h2⟩⟩ rfl hk (fun b hb => (zaB hp.2 b).1 hb) sA
end Go.Proofs.YtaghmffgoomebaaGreat.St
