/- How many nodes have no block yet; how many there are: store.fresh, law 36's count. Own facts said otherwise; what is read becomes one's own; a saver and its state. What lies on the disk behind Save: each node's sector (plain; no program). A tree loaded again: what is like it (plain; no program). -/
import Derived.Test.YtaghmffgoomebaaGreatSv8
import Derived.Test.YtaghmffgoomebaaGreatSt1
set_option linter.unusedVariables false
set_option linter.unusedSimpArgs false
namespace Go.Proofs.YtaghmffgoomebaaGreat.St
open Go.RowKit Mem Gx Bytes Dk Al Rf Hp Nd Ch
open Tr hiding T row
set_option maxRecDepth 100000
set_option maxHeartbeats 4000000
theorem zfO {vs : List Nat} {i v : Nat} (h : vs[i]? = some v) : (vs.take (i + 1)).sum = (vs.take i).sum + v ∧ (vs.take (i + 1)).sum ≤ vs.sum := by
 obtain ⟨hi, e⟩ := List.getElem?_eq_some_iff.1 h
 rw [List.take_succ_eq_append_getElem hi, e, List.sum_append, List.sum_singleton]
 refine ⟨rfl, ?_⟩
 have k : vs.sum = (vs.take i).sum + (v + (vs.drop (i + 1)).sum) := by
  conv => lhs; rw [← List.take_append_drop i vs, List.sum_append, List.drop_eq_getElem_cons hi, e, List.sum_cons]
 omega
theorem frN_le (d : NodeD) : frN d ≤ 1 := by unfold frN; split <;> omega
theorem zfA (F : Fact) (d : NodeD) (vs : List Nat) (w : World) (hok : d.Ok) (hl : vs.length = d.Cs.length) (hb : vs.sum ≤ 10000) (hkid : ∀ (i g v : Nat), d.Cs[i]? = some g → vs[i]? = some v → ∀ w, Rd1 w F → Calls Tryz.prog 41 [.pointer (some ⟨g, 0, none⟩)].toArray w fun e w' => e = .returned (.int .i64 (v : Int)) ∧ Below w.heap.size w w') (hF : Rd1 w F) (hD : Der [F] (nodeF d)) :
 Calls Tryz.prog 41 [.pointer (some ⟨d.g, 0, none⟩)].toArray w fun e w' => e = .returned (.int .i64 ((vs.sum + frN d : Nat) : Int)) ∧ Below w.heap.size w w' := by
 have hN : Rd1 w (nodeF d) := hD.rd fun ψ hψ => by obtain rfl := m1 hψ; exact hF
 obtain ⟨g, lf, ⟨KA, Kn, Kc⟩, Ks, ⟨VA, Vn, Vc⟩, Vs, ⟨CA, Cn, Cc⟩, Cs, a⟩ := d
 have hCn : Cn = Cs.length := hok.C.n
 have hC9 := hok.C.c
 have hC8 := hok.C.mx
 unfold maxLen at hC8
 dsimp only at hl hkid hC9 hC8
 subst hCn
 obtain ⟨m, hm⟩ : ∃ m, m = frN ⟨g, lf, ⟨KA, Kn, Kc⟩, Ks, ⟨VA, Vn, Vc⟩, Vs, ⟨CA, Cs.length, Cc⟩, Cs, a⟩ := ⟨_, rfl⟩
 rw [← hm]
 have hm1 : m ≤ 1 := hm ▸ frN_le _
 refine zab T [] [] [F, blk g [.bool lf, .slice KA Kn Kc, .slice VA Vn Vc, .slice CA Cs.length Cc, .int .u32 a] 109, sl CA 1 PE Cs] Tryz.func41 rfl Tryz.ntmps41 rfl (Rds.cons hF (.cons (Rd1.open (F := id) hN (x := blk g [.bool lf, .slice KA Kn Kc, .slice VA Vn Vc, .slice CA Cs.length Cc, .int .u32 a] 109) (.head _)) (.cons (Rd1.open (F := id) hN (x := sl CA 1 PE Cs) (.tail _ (.tail _ (.tail _ (.head _))))) .nil))).kn ?_
 refine za9 (g := g) mE ?_
 by_cases ha : a = 0
 ·have hm0 : m = 1 := by rw [hm]; unfold frN; rw [if_pos ha]
  subst ha
  (repeat' (first | (refine gH ?_; try intro _) | (refine gS ?_ ?_ <;> intro _) | fail))
  refine zbs (v := .int .i64 1) 3 (.int .i64 ((m + (vs.take 0).sum : Nat) : Int)) rfl (by rw [hm0]; rfl) ?_
  refine zap (fun (i : Nat) => i ≤ Cs.length) (fun i => [(3, .int .i64 ((m + (vs.take i).sum : Nat) : Int)), (14, .slice CA Cs.length Cc), (15, .int .i64 (Cs.length : Nat)), (16, .int .i64 i)]) (fun i => []) (fun i => [F, sl CA 1 PE Cs]) (fun i => Cs.length - i) 0 rfl (Nat.zero_le _) fS sA sS ?_
  rintro i hI
  by_cases hlt : i < Cs.length
  ·obtain ⟨v, hv⟩ : ∃ v, vs[i]? = some v := ⟨vs[i], List.getElem?_eq_getElem (by omega)⟩
   have hs := zfO hv
   refine zar (A := CA) (enc := PE) (L := Cs) i mE hlt (by decide) (fun b off y eA hy => ?_)
   subst eA
   (repeat' (first | (refine gH ?_; try intro _) | (refine gS ?_ ?_ <;> intro _) | fail))
   refine cB (fun w hk => hkid i y v hy hv w (hk.rR (φ := F) mE)) ?_
   (repeat' (first | (refine gH ?_; try intro _) | (refine gS ?_ ?_ <;> intro _) | fail))
   refine zbs 3 (.int .i64 ((m + (vs.take (i + 1)).sum : Nat) : Int)) rfl (by congr 1; omega) ?_
   refine zag rfl (i + 1) (by omega) (by omega) fS sA sS
  ·have hi : i = vs.length := by omega
   subst hi
   rw [List.take_length]
   (repeat' (first | (refine gH ?_; try intro _) | (refine gS ?_ ?_ <;> intro _) | fail))
   refine zad hT rfl rfl (.tmp rfl .nil) (fun w' hk => ?_)
   exact ⟨by rw [Nat.add_comm m vs.sum]; rfl, hk.toBelow⟩
 ·have hm0 : m = 0 := by rw [hm]; unfold frN; rw [if_neg ha]
  (repeat' (first | (refine gH ?_; try intro _) | (refine gS ?_ ?_ <;> intro _) | fail))
  refine zbs (v := .int .i64 0) 3 (.int .i64 ((m + (vs.take 0).sum : Nat) : Int)) rfl (by rw [hm0]; rfl) ?_
  refine zap (fun (i : Nat) => i ≤ Cs.length) (fun i => [(3, .int .i64 ((m + (vs.take i).sum : Nat) : Int)), (14, .slice CA Cs.length Cc), (15, .int .i64 (Cs.length : Nat)), (16, .int .i64 i)]) (fun i => []) (fun i => [F, sl CA 1 PE Cs]) (fun i => Cs.length - i) 0 rfl (Nat.zero_le _) fS sA sS ?_
  rintro i hI
  by_cases hlt : i < Cs.length
  ·obtain ⟨v, hv⟩ : ∃ v, vs[i]? = some v := ⟨vs[i], List.getElem?_eq_getElem (by omega)⟩
   have hs := zfO hv
   refine zar (A := CA) (enc := PE) (L := Cs) i mE hlt (by decide) (fun b off y eA hy => ?_)
   subst eA
   (repeat' (first | (refine gH ?_; try intro _) | (refine gS ?_ ?_ <;> intro _) | fail))
   refine cB (fun w hk => hkid i y v hy hv w (hk.rR (φ := F) mE)) ?_
   (repeat' (first | (refine gH ?_; try intro _) | (refine gS ?_ ?_ <;> intro _) | fail))
   refine zbs 3 (.int .i64 ((m + (vs.take (i + 1)).sum : Nat) : Int)) rfl (by congr 1; omega) ?_
   refine zag rfl (i + 1) (by omega) (by omega) fS sA sS
  ·have hi : i = vs.length := by omega
   subst hi
   rw [List.take_length]
   (repeat' (first | (refine gH ?_; try intro _) | (refine gS ?_ ?_ <;> intro _) | fail))
   refine zad hT rfl rfl (.tmp rfl .nil) (fun w' hk => ?_)
   exact ⟨by rw [Nat.add_comm m vs.sum]; rfl, hk.toBelow⟩
theorem zpE {h : Nat} {t : Tr.T (h + 1)} (ok : Ok (h + 1) t) {i g : Nat} (hg : (nd (h + 1) t).Cs[i]? = some g) : ∃ k, t.2[i]? = some k ∧ (nd h k).g = g := by
 have e : (nd (h + 1) t).Cs = (t.2.map (nd h)).map NodeD.g := ok.1.Cs
 rw [e, List.map_map, List.getElem?_map] at hg
 obtain ⟨k, hk, e2⟩ := Option.map_eq_some_iff.1 hg
 exact ⟨k, hk, e2⟩
theorem zo8 {vs : List Nat} {v : Nat} (h : v ∈ vs) : v ≤ vs.sum := by
 obtain ⟨i, hi⟩ := List.getElem?_of_mem h
 have := zfO hi
 omega
theorem zfB : ∀ (h : Nat) (t : Tr.T h) (w : World), Ok h t → fr h t ≤ 10000 → Rd1 w (treeF h t) → Calls Tryz.prog 41 [.pointer (some ⟨(nd h t).g, 0, none⟩)].toArray w fun e w' => e = .returned (.int .i64 ((fr h t : Nat) : Int)) ∧ Below w.heap.size w w'
 | 0, t, w, ok, h9, hF => by
   have hC : (nd 0 t).Cs = [] := ok.1.Cs
   have := zfA (treeF 0 t) (nd 0 t) [] w (zg9 ok) (by rw [hC]) (Nat.zero_le _) (fun i g v h1 h2 => (by cases h2)) hF (zdO t)
   rwa [show ([] : List Nat).sum + frN (nd 0 t) = fr 0 t from Nat.zero_add _] at this
 | h + 1, t, w, ok, h9, hF => by
   have hC : (nd (h + 1) t).Cs = (t.2.map (nd h)).map NodeD.g := ok.1.Cs
   have h9' : (t.2.map (fr h)).sum + frN (nd (h + 1) t) ≤ 10000 := h9
   exact zfA (treeF (h + 1) t) (nd (h + 1) t) (t.2.map (fr h)) w (zg9 ok) (by rw [hC, List.length_map, List.length_map, List.length_map]) (by omega) (fun i g v h1 h2 w hw => by
    obtain ⟨k, hk, e⟩ := zpE ok h1
    rw [List.getElem?_map, hk] at h2
    obtain rfl := Option.some.inj h2
    have hm := List.mem_of_getElem? hk
    have := zo8 (List.mem_map.2 ⟨k, hm, rfl⟩ : fr h k ∈ t.2.map (fr h))
    rw [← e]
    exact zfB h k w (ok.2.2 k hm) (by omega) ((zcB hm).rd fun ψ hψ => by obtain rfl := m1 hψ; exact hw)) hF (zdO t)
end Go.Proofs.YtaghmffgoomebaaGreat.St
namespace Go.Proofs.YtaghmffgoomebaaGreat.Gx
open Go.RowKit Mem
section
variable {X : Cx} {f : Fr} {O O1 R R' : List Fact} {φ ψ : Fact} {E : List Nat} {w0 w : World} {ks k : List KI} {ops lo : List Oper}
theorem Kn.turn (h : Kn E w0 w (φ :: O) R) (hp : φ.p w → ψ.p w) (hS : ∀ b, ψ.S b → φ.S b) : Kn E w0 w (ψ :: O) R :=
 { os := h.os
   tape := h.tape
   output := h.output
   size := h.size
   block := h.block
   ownS := fun χ hχ b hb => by
    rcases List.mem_cons.1 hχ with rfl | h1
    ·exact h.ownS _ (.head _) b (hS b hb)
    ·exact h.ownS _ (.tail _ h1) b hb
   ltO := fun χ hχ b hb => by
    rcases List.mem_cons.1 hχ with rfl | h1
    ·exact h.ltO _ (.head _) b (hS b hb)
    ·exact h.ltO _ (.tail _ h1) b hb
   ltR := h.ltR
   pO := fun χ hχ => by
    rcases List.mem_cons.1 hχ with rfl | h1
    ·exact hp (h.pO _ (.head _))
    ·exact h.pO _ (.tail _ h1)
   pR := h.pR
   disO := List.pairwise_cons.2 ⟨fun χ hχ b hb => (List.pairwise_cons.1 h.disO).1 χ hχ b (hS b hb), (List.pairwise_cons.1 h.disO).2⟩
   disR := fun χ hχ ξ hξ b h1 h2 => by
    rcases List.mem_cons.1 hχ with rfl | h3
    ·exact h.disR _ (.head _) ξ hξ b (hS b h1) h2
    ·exact h.disR _ (.tail _ h3) ξ hξ b h1 h2 }
theorem zdh (ψ : Fact) (hs : Sel φ O O1) (hp : ∀ w : World, φ.p w → ψ.p w) (hS : ∀ b, ψ.S b → φ.S b) (hg : GK X ks f (ψ :: O1) R) : GK X ks f O R := .mk fun a w hr hk => hg.out a w hr (Kn.turn (hk.perm hs.perm) (hp w) hS)
theorem zl6 (ψ : Fact) (hs : Sel φ O O1) (hp : ∀ w : World, φ.p w → ψ.p w) (hS : ∀ b, ψ.S b → φ.S b) (hg : G X ops lo k f (ψ :: O1) R) : G X ops lo k f O R := .mk fun a w hr hk => hg.out a w hr (Kn.turn (hk.perm hs.perm) (hp w) hS)
theorem Kn.unshare (h : Kn E w0 w O R) (hm : φ ∈ R) (hR : R' ⊆ R) (hn : ∀ b, φ.S b → w0.heap.size ≤ b ∨ b ∈ E) (hd : ∀ ψ ∈ R', ∀ b, φ.S b → ¬ ψ.S b) : Kn E w0 w (φ :: O) R' :=
 { os := h.os
   tape := h.tape
   output := h.output
   size := h.size
   block := h.block
   ownS := fun χ hχ b hb => by
    rcases List.mem_cons.1 hχ with rfl | h1
    ·exact hn b hb
    ·exact h.ownS _ h1 b hb
   ltO := fun χ hχ b hb => by
    rcases List.mem_cons.1 hχ with rfl | h1
    ·exact h.ltR _ hm b hb
    ·exact h.ltO _ h1 b hb
   ltR := fun χ hχ => h.ltR χ (hR hχ)
   pO := fun χ hχ => by
    rcases List.mem_cons.1 hχ with rfl | h1
    ·exact h.pR _ hm
    ·exact h.pO _ h1
   pR := fun χ hχ => h.pR χ (hR hχ)
   disO := List.pairwise_cons.2 ⟨fun χ hχ b hb h2 => h.disR χ hχ φ hm b h2 hb, h.disO⟩
   disR := fun χ hχ ξ hξ b h1 h2 => by
    rcases List.mem_cons.1 hχ with rfl | h3
    ·exact hd ξ hξ b h1 h2
    ·exact h.disR _ h3 ξ (hR hξ) b h1 h2 }
theorem zl5 (φ : Fact) (R' : List Fact) (hm : φ ∈ R) (hR : R' ⊆ R) (hn : ∀ b, φ.S b → X.w0.heap.size ≤ b ∨ b ∈ X.E) (hd : ∀ w : World, (∀ χ, χ ∈ R → χ.p w) → ∀ ψ ∈ R', ∀ b, φ.S b → ¬ ψ.S b) (hg : G X ops lo k f (φ :: O) R') : G X ops lo k f O R := .mk fun a w hr hk => hg.out a w hr (hk.unshare hm hR hn (hd w hk.pR))
end
end Go.Proofs.YtaghmffgoomebaaGreat.Gx
namespace Go.Proofs.YtaghmffgoomebaaGreat.St
open Go.RowKit Mem Gx Bytes Dk Al Rf Hp Nd Ch
open Tr hiding T row
set_option maxRecDepth 100000
def hdL {h : Nat} (ks : List (Tr.T h)) : Fact := allF ((ks.map (nds h)).flatten) hdB
def hdX {h : Nat} (d : NodeD) (ks : List (Tr.T h)) : Fact := allF (d :: (ks.map (nds h)).flatten) hdB
theorem hd_S {l : List NodeD} {b : Nat} : (allF l hdB).S b ↔ b ∈ l.map NodeD.g := by
 constructor
 ·rintro ⟨d, hd, e⟩
  have e' : b = d.g := e
  exact List.mem_map.2 ⟨d, hd, e'.symm⟩
 ·intro h
  obtain ⟨d, hd, e⟩ := List.mem_map.1 h
  exact ⟨d, hd, e.symm⟩
theorem hd_dis {l m : List NodeD} (hn : (l.map NodeD.g ++ m.map NodeD.g).Nodup) : ∀ b, (allF l hdB).S b → ¬ (allF m hdB).S b := fun b h1 h2 =>
 (List.nodup_append.1 hn).2.2 b (hd_S.1 h1) b (hd_S.1 h2) rfl
theorem zpH {l m : List NodeD} (hn : (l.map NodeD.g ++ m.map NodeD.g).Nodup) : (∀ w : World, (allF (l ++ m) hdB).p w → (packF [allF l hdB, allF m hdB]).p w) ∧ ∀ b, (packF [allF l hdB, allF m hdB]).S b → (allF (l ++ m) hdB).S b := by
 refine ⟨fun w hw => ⟨?_, fun φ hφ => ?_⟩, fun b ⟨φ, hφ, hb⟩ => ?_⟩
 ·exact List.pairwise_cons.2 ⟨fun φ hφ => by obtain rfl := m1 hφ; exact hd_dis hn, List.pairwise_singleton _ _⟩
 ·rcases List.mem_cons.1 hφ with rfl | hφ
  ·exact fun d hd => hw d (List.mem_append_left _ hd)
  ·obtain rfl := m1 hφ
   exact fun d hd => hw d (List.mem_append_right _ hd)
 ·rcases List.mem_cons.1 hφ with rfl | hφ
  ·obtain ⟨d, hd, e⟩ := hb
   exact ⟨d, List.mem_append_left _ hd, e⟩
  ·obtain rfl := m1 hφ
   obtain ⟨d, hd, e⟩ := hb
   exact ⟨d, List.mem_append_right _ hd, e⟩
theorem zpI {l m : List NodeD} : (∀ w : World, (packF [allF l hdB, allF m hdB]).p w → (allF (l ++ m) hdB).p w) ∧ ∀ b, (allF (l ++ m) hdB).S b → (packF [allF l hdB, allF m hdB]).S b := by
 refine ⟨fun w hw d hd => ?_, fun b ⟨d, hd, e⟩ => ?_⟩
 ·rcases List.mem_append.1 hd with hd | hd
  ·exact hw.2 (allF l hdB) (.head _) d hd
  ·exact hw.2 (allF m hdB) (.tail _ (.head _)) d hd
 ·rcases List.mem_append.1 hd with hd | hd
  ·exact ⟨allF l hdB, .head _, d, hd, e⟩
  ·exact ⟨allF m hdB, .tail _ (.head _), d, hd, e⟩
theorem znO {h : Nat} (k : Tr.T h) (r : List (Tr.T h)) : hdL (k :: r) = allF (nds h k ++ (r.map (nds h)).flatten) hdB := rfl
theorem znN {h : Nat} (k : Tr.T h) (r : List (Tr.T h)) : hdL (r ++ [k]) = allF ((r.map (nds h)).flatten ++ nds h k) hdB := by
 unfold hdL
 rw [List.map_append, List.flatten_append]
 show allF (_ ++ (nds h k ++ [])) hdB = _
 rw [List.append_nil]
theorem zjh {h : Nat} {d : NodeD} {ks : List (Tr.T h)} (hn : (d.g :: ((ks.map (nds h)).flatten).map NodeD.g).Nodup) : (∀ w : World, (hdX d ks).p w → (packF [hdB d, hdL ([] : List (Tr.T h)), hdL ks]).p w) ∧ ∀ b, (packF [hdB d, hdL ([] : List (Tr.T h)), hdL ks]).S b → (hdX d ks).S b := by
 refine ⟨fun w hw => ⟨?_, fun φ hφ => ?_⟩, fun b ⟨φ, hφ, hb⟩ => ?_⟩
 ·refine List.pairwise_cons.2 ⟨fun φ hφ b hb hb2 => ?_, List.pairwise_cons.2 ⟨fun φ hφ b hb => ?_, List.pairwise_singleton _ _⟩⟩
  ·have hb' : b = d.g := hb
   rcases List.mem_cons.1 hφ with rfl | hφ
   ·obtain ⟨x, hx, _⟩ := hb2
    cases hx
   ·obtain rfl := m1 hφ
    have := hd_S.1 hb2
    rw [hb'] at this
    exact (List.nodup_cons.1 hn).1 this
  ·obtain ⟨x, hx, _⟩ := hb
   cases hx
 ·rcases List.mem_cons.1 hφ with rfl | hφ
  ·exact hw d (.head _)
  rcases List.mem_cons.1 hφ with rfl | hφ
  ·exact fun x hx => (by cases hx)
  ·obtain rfl := m1 hφ
   exact fun x hx => hw x (.tail _ hx)
 ·rcases List.mem_cons.1 hφ with rfl | hφ
  ·exact ⟨d, .head _, hb⟩
  rcases List.mem_cons.1 hφ with rfl | hφ
  ·obtain ⟨x, hx, _⟩ := hb
   cases hx
  ·obtain rfl := m1 hφ
   obtain ⟨x, hx, e⟩ := hb
   exact ⟨x, .tail _ hx, e⟩
theorem zem {h : Nat} {d : NodeD} {ks : List (Tr.T h)} : (∀ w : World, (packF [hdB d, hdL ks]).p w → (hdX d ks).p w) ∧ ∀ b, (hdX d ks).S b → (packF [hdB d, hdL ks]).S b := by
 refine ⟨fun w hw x hx => ?_, fun b ⟨x, hx, e⟩ => ?_⟩
 ·rcases List.mem_cons.1 hx with rfl | hx
  ·exact hw.2 (hdB x) (.head _)
  ·exact hw.2 (hdL ks) (.tail _ (.head _)) x hx
 ·rcases List.mem_cons.1 hx with rfl | hx
  ·exact ⟨hdB x, .head _, e⟩
  ·exact ⟨hdL ks, .tail _ (.head _), x, hx, e⟩
def alK (n k : Nat) : AlS := ⟨(iota n).drop k, iota k, [], []⟩
theorem znJ {n k : Nat} (h : k < n) : (iota n)[k]? = some ((k : Int) + 1) := by
 unfold iota
 rw [List.getElem?_map, List.getElem?_range h]
 rfl
theorem zm2 {n k : Nat} (h : k < n) : takeA (alK n k) = (alK n (k + 1), ((k : Int) + 1), 0) := by
 have e : (iota n).drop k = ((k : Int) + 1) :: (iota n).drop (k + 1) := by
  have hk : k < (iota n).length := by rw [zc0]; exact h
  rw [List.drop_eq_getElem_cons hk]
  have := znJ h
  rw [List.getElem?_eq_getElem hk] at this
  rw [Option.some.inj this]
 unfold takeA alK
 rw [e]
 show ((⟨(iota n).drop (k + 1), iota k ++ [(k : Int) + 1], [], []⟩ : AlS), _) = _
 rw [zeS]
theorem zoo (n : Nat) : alK n 0 = ⟨iota n, [], [], []⟩ := rfl
theorem zjI (n k : Nat) : (alK n k).S.length = n - k := by
 show ((iota n).drop k).length = _
 rw [List.length_drop, zc0]
theorem zop (n k : Nat) : (alK n k).l.length = k := zc0 k
structure SvQ where
 A : Option Addr
 c : Nat
 D : AlD
 lv : Value
 W : List WrD
def ws (W : List (Nat × List Int)) : List Wr := W.map fun p => (p.1 + 4 + 1, p.2)
structure SvOk (n : Nat) (S : List SecD) (s : SvS) (q : SvQ) : Prop where
 a : AlI n q.D (alK n s.k)
 d : DkOk S q.W
 w : q.W.map WrD.c = ws s.W
abbrev svF (sp g pa n : Nat) (sv : Value) (S : List SecD) (s : SvS) (q : SvQ) : List Fact := [blk sp [.pointer (some ⟨g, 0, none⟩), .int .i64 ((4 : Nat) : Int), .pointer (some ⟨pa, 0, none⟩), .slice q.A s.l.length q.c] 103, own 0 26 1 (.slice q.A s.l.length q.c) (IE .u32) s.l, alF pa n q.D (alK n s.k), dkF g ⟨sv, q.lv, S, q.W⟩]
end Go.Proofs.YtaghmffgoomebaaGreat.St
namespace Go.Proofs.YtaghmffgoomebaaGreat.St
open Go.RowKit Mem Gx Bytes Dk Al Rf Hp Nd Ch Tw
open Tr hiding T row
def sec (S0 : List Sec) (W : List (Nat × List Int)) (y : Nat) : List Int := dread S0 (ws W) (y + 4 + 1)
theorem ziH (S0 : List Sec) (W : List (Nat × List Int)) (y : Nat) (X : List Int) (z : Nat) : sec S0 (W ++ [(y, X)]) z = if y = z then X else sec S0 W z := by
 unfold sec ws
 rw [List.map_append]
 refine (zkj _ _ (y + 4 + 1, X) _).trans ?_
 by_cases e : y = z
 ·subst e
  rw [if_pos rfl, if_pos rfl]
 ·rw [if_neg (by show ¬ y + 4 + 1 = z + 4 + 1; omega), if_neg e]
def Dsk (f : Nat → List Int) : (h : Nat) → Tr.T h → Prop
 | 0, t => f t.1.a.toNat = Page.page 3 (nodeB t.2)
 | h + 1, t => f t.1.a.toNat = Page.page 4 (nodeB (kidE h t.2)) ∧ ∀ k ∈ t.2, Dsk f h k
def OldP (f : Nat → List Int) (k : Nat) (h : Nat) (t : Tr.T h) : Prop := 0 ≤ (nd h t).a ∧ (nd h t).a ≤ k ∧ ((nd h t).a ≠ 0 → Dsk f h t ∧ ∀ d ∈ nds h t, 0 < d.a ∧ d.a ≤ k)
theorem znr (f : Nat → List Int) (k : Nat) (h : Nat) (t : Tr.T h) (e : (nd h t).a = 0) : OldP f k h t := ⟨by omega, by omega, fun h => absurd e h⟩
theorem zdM {f f' : Nat → List Int} {k : Nat} (hf : ∀ y, 0 < y → y ≤ k → f' y = f y) : ∀ (h : Nat) (t : Tr.T h), (∀ d ∈ nds h t, 0 < d.a ∧ d.a ≤ k) → Dsk f h t → Dsk f' h t
 | 0, t, ha, hd => by
   obtain ⟨a1, a2⟩ := ha t.1 (.head _)
   show f' t.1.a.toNat = _
   rw [hf _ (by omega) (by omega)]
   exact hd
 | h + 1, t, ha, hd => by
   obtain ⟨a1, a2⟩ := ha t.1 (.head _)
   refine ⟨?_, fun k hk => zdM hf h k (fun d hd => ha d (zbG hk hd)) (hd.2 k hk)⟩
   rw [hf _ (by omega) (by omega)]
   exact hd.1
theorem zk7 {f f' : Nat → List Int} {k k' : Nat} (hk : k ≤ k') (hf : ∀ y, 0 < y → y ≤ k → f' y = f y) {h : Nat} {t : Tr.T h} (z : OldP f k h t) : OldP f' k' h t :=
 ⟨z.1, by have := z.2.1; omega, fun h0 => ⟨zdM hf h t (z.2.2 h0).2 (z.2.2 h0).1, fun d hd => by have := (z.2.2 h0).2 d hd; omega⟩⟩
theorem zfd {P Q : (h : Nat) → Tr.T h → Prop} (hPQ : ∀ h t, P h t → Q h t) : ∀ {h : Nat} {t : Tr.T h}, AllT P h t → AllT Q h t
 | 0, t, z => hPQ 0 t z
 | h + 1, t, z => ⟨hPQ _ t z.1, fun k hk => zfd hPQ (z.2 k hk)⟩
theorem zm4 (S0 : List Sec) (d : NodeD) (X : List Int) (s : SvS) : (∀ y, y ≤ s.k → sec S0 (svN d X s).2.W y = sec S0 s.W y) ∧ (d.a = 0 → sec S0 (svN d X s).2.W (svN d X s).1.a.toNat = X) ∧ (d.a ≠ 0 → svN d X s = (d, ⟨s.k, s.l ++ [d.a], s.W⟩)) := by
 unfold svN
 by_cases h0 : d.a = 0
 ·rw [if_pos h0]
  refine ⟨fun y hy => ?_, fun _ => ?_, fun h => absurd h0 h⟩
  ·show sec S0 (s.W ++ [(s.k + 1, X)]) y = _
   rw [ziH, if_neg (by omega)]
  ·show sec S0 (s.W ++ [(s.k + 1, X)]) ((s.k : Int) + 1).toNat = X
   rw [ziH, if_pos (by omega)]
 ·rw [if_neg h0]
  exact ⟨fun y hy => rfl, fun h => absurd h h0, fun _ => rfl⟩
theorem zo5 : ∀ (h : Nat) (t : Tr.T h) (s : SvS), (∀ d ∈ nds h t, d.a ≠ 0) → (svT h t s).1 = t ∧ (svT h t s).2.k = s.k ∧ (svT h t s).2.W = s.W := by
 intro h
 induction h with
 | zero =>
   intro t s ha
   have e := (zm4 [] t.1 (Page.page 3 (nodeB t.2)) s).2.2 (ha t.1 (.head _))
   have e1 : svT 0 t s = (((svN t.1 (Page.page 3 (nodeB t.2)) s).1, t.2), (svN t.1 (Page.page 3 (nodeB t.2)) s).2) := rfl
   rw [e1, e]
   exact ⟨rfl, rfl, rfl⟩
 | succ h ih =>
   intro t s ha
   have key : ∀ (ks : List (Tr.T h)) (s : SvS), (∀ k ∈ ks, ∀ d ∈ nds h k, d.a ≠ 0) → (svL (svT h) ks s).1 = ks ∧ (svL (svT h) ks s).2.k = s.k ∧ (svL (svT h) ks s).2.W = s.W := fun ks => by
    induction ks with
    | nil => intro s _; exact ⟨rfl, rfl, rfl⟩
    | cons x r ihr =>
      intro s hk
      obtain ⟨a1, a2, a3⟩ := ih x s (hk x (.head _))
      obtain ⟨b1, b2, b3⟩ := ihr (svT h x s).2 fun k hk' => hk k (.tail _ hk')
      refine ⟨?_, b2.trans a2, b3.trans a3⟩
      show (svT h x s).1 :: (svL (svT h) r (svT h x s).2).1 = x :: r
      rw [a1, b1]
   obtain ⟨k1, k2, k3⟩ := key t.2 s fun k hk d hd => ha d (zbG hk hd)
   have e := (zm4 [] t.1 (Page.page 4 (nodeB (kidE h (svL (svT h) t.2 s).1))) (svL (svT h) t.2 s).2).2.2 (ha t.1 (.head _))
   have e1 : svT (h + 1) t s = (((svN t.1 (Page.page 4 (nodeB (kidE h (svL (svT h) t.2 s).1))) (svL (svT h) t.2 s).2).1, (svL (svT h) t.2 s).1), (svN t.1 (Page.page 4 (nodeB (kidE h (svL (svT h) t.2 s).1))) (svL (svT h) t.2 s).2).2) := rfl
   rw [e1, e, k1]
   exact ⟨rfl, k2, k3⟩
theorem zo7 (S0 : List Sec) : ∀ (h : Nat) (t : Tr.T h) (s : SvS), AllT (OldP (sec S0 s.W) s.k) h t → Dsk (sec S0 (svT h t s).2.W) h (svT h t s).1 ∧ (∀ y, y ≤ s.k → sec S0 (svT h t s).2.W y = sec S0 s.W y) ∧ ∀ d ∈ nds h (svT h t s).1, 0 < d.a ∧ d.a ≤ (svT h t s).2.k := by
 have kN : ∀ (d : NodeD) (X : List Int) (s : SvS), 0 ≤ d.a → d.a ≤ s.k → 0 < (svN d X s).1.a ∧ (svN d X s).1.a ≤ (svN d X s).2.k ∧ s.k ≤ (svN d X s).2.k := fun d X s h1 h2 => by
  unfold svN
  split
  ·exact ⟨by show (0 : Int) < (s.k : Int) + 1; omega, by show (s.k : Int) + 1 ≤ ((s.k + 1 : Nat) : Int); omega, by show s.k ≤ s.k + 1; omega⟩
  ·rename_i h0
   exact ⟨by show 0 < d.a; omega, by show d.a ≤ (s.k : Int); omega, Nat.le_refl _⟩
 intro h
 induction h with
 | zero =>
   intro t s z
   obtain ⟨z1, z2, z3⟩ : OldP (sec S0 s.W) s.k 0 t := z
   obtain ⟨w1, w2, w3⟩ := zm4 S0 t.1 (Page.page 3 (nodeB t.2)) s
   refine ⟨?_, w1, fun d hd => ?_⟩
   ·show sec S0 (svN t.1 (Page.page 3 (nodeB t.2)) s).2.W (svN t.1 (Page.page 3 (nodeB t.2)) s).1.a.toNat = Page.page 3 (nodeB t.2)
    by_cases h0 : t.1.a = 0
    ·exact w2 h0
    ·rw [w3 h0]
     exact (z3 h0).1
   ·obtain rfl := m1 hd
    have := kN t.1 (Page.page 3 (nodeB t.2)) s z1 z2
    exact ⟨this.1, this.2.1⟩
 | succ h ih =>
   intro t s z
   obtain ⟨⟨z1, z2, z3⟩, zk⟩ := z
   have key : ∀ (ks : List (Tr.T h)) (s : SvS), (∀ k ∈ ks, AllT (OldP (sec S0 s.W) s.k) h k) → (∀ k ∈ (svL (svT h) ks s).1, Dsk (sec S0 (svL (svT h) ks s).2.W) h k ∧ ∀ d ∈ nds h k, 0 < d.a ∧ d.a ≤ (svL (svT h) ks s).2.k) ∧ (∀ y, y ≤ s.k → sec S0 (svL (svT h) ks s).2.W y = sec S0 s.W y) ∧ s.k ≤ (svL (svT h) ks s).2.k := fun ks => by
    induction ks with
    | nil => intro s _; exact ⟨fun k hk => (by cases hk), fun y _ => rfl, Nat.le_refl _⟩
    | cons x r ihr =>
      intro s hk
      obtain ⟨a1, a2, a3⟩ := ih x s (hk x (.head _))
      have hk1 : s.k ≤ (svT h x s).2.k := by rw [(zex h x s).1]; omega
      obtain ⟨b1, b2, b3⟩ := ihr (svT h x s).2 fun k hk' => zfd (fun h t z => zk7 hk1 (fun y _ hy => a2 y hy) z) (hk k (.tail _ hk'))
      refine ⟨fun k hk' => ?_, fun y hy => (b2 y (by omega)).trans (a2 y hy), Nat.le_trans hk1 b3⟩
      rcases List.mem_cons.1 hk' with rfl | hk'
      ·exact ⟨zdM (fun y _ hy => b2 y hy) h _ a3 a1, fun d hd => by have := a3 d hd; have : (svT h x s).2.k ≤ (svL (svT h) (x :: r) s).2.k := b3; omega⟩
      ·exact b1 k hk'
   obtain ⟨k1, k2, k3⟩ := key t.2 s zk
   have z2' : t.1.a ≤ ((svL (svT h) t.2 s).2.k : Int) := by have : t.1.a ≤ (s.k : Int) := z2; omega
   obtain ⟨w1, w2, w3⟩ := zm4 S0 t.1 (Page.page 4 (nodeB (kidE h (svL (svT h) t.2 s).1))) (svL (svT h) t.2 s).2
   obtain ⟨n1, n2, n3⟩ := kN t.1 (Page.page 4 (nodeB (kidE h (svL (svT h) t.2 s).1))) (svL (svT h) t.2 s).2 z1 z2'
   refine ⟨⟨?_, fun k hk => ?_⟩, fun y hy => (w1 y (by omega)).trans (k2 y hy), fun d hd => ?_⟩
   ·show sec S0 (svN t.1 (Page.page 4 (nodeB (kidE h (svL (svT h) t.2 s).1))) (svL (svT h) t.2 s).2).2.W (svN t.1 (Page.page 4 (nodeB (kidE h (svL (svT h) t.2 s).1))) (svL (svT h) t.2 s).2).1.a.toNat = Page.page 4 (nodeB (kidE h (svL (svT h) t.2 s).1))
    by_cases h0 : t.1.a = 0
    ·exact w2 h0
    ·have z3' := z3 h0
     obtain ⟨o1, o2, o3⟩ := zo5 (h + 1) t s fun d hd => by have := (z3'.2 d hd).1; omega
     have o4 : (svL (svT h) t.2 s).1 = t.2 := congrArg Prod.snd o1
     have hle : t.1.a.toNat ≤ s.k := by have : t.1.a ≤ (s.k : Int) := z2; omega
     rw [w3 h0, o4]
     show sec S0 (svL (svT h) t.2 s).2.W t.1.a.toNat = _
     rw [k2 _ hle]
     exact z3'.1.1
   ·refine zdM (f := sec S0 (svL (svT h) t.2 s).2.W) (k := (svL (svT h) t.2 s).2.k) (fun y _ hy => w1 y hy) h k (k1 k hk).2 (k1 k hk).1
   ·rcases zb2 hd with rfl | ⟨k, hk, hd⟩
    ·exact ⟨n1, n2⟩
    ·have := (k1 k hk).2 d hd
     have n3' : (svL (svT h) t.2 s).2.k ≤ (svT (h + 1) t s).2.k := n3
     omega
end Go.Proofs.YtaghmffgoomebaaGreat.St
namespace Go.Proofs.YtaghmffgoomebaaGreat.St
open Go.RowKit Mem Gx Bytes Dk Al Rf Hp Nd Ch Tw
open Tr hiding T row
def pre : (h : Nat) → Tr.T h → List Int
 | 0, t => [t.1.a]
 | h + 1, t => t.1.a :: (t.2.map (pre h)).flatten
def LdT : (h : Nat) → Tr.T h → Tr.T h → Prop
 | 0, t, u => IsLeafW t.2 u.1 ∧ u.1.a = t.1.a ∧ u.2 = t.2
 | h + 1, t, u => (u.1.Ok ∧ u.1.leaf = false ∧ u.1.Ks = t.2.map (fun k => (nd h k).Ks.getD 0 default) ∧ u.1.Vs = [] ∧ u.1.Cs = u.2.map fun k => (nd h k).g) ∧ u.1.a = t.1.a ∧ u.2.length = t.2.length ∧ ∀ (i : Nat) (k v : Tr.T h), t.2[i]? = some k → u.2[i]? = some v → LdT h k v
theorem zi7 {α : Type} {R : α → α → Prop} {l m : List α} (hl : m.length = l.length) (h : ∀ (i : Nat) (x y : α), l[i]? = some x → m[i]? = some y → R x y) {β : Type} {φ ψ : α → β} (hR : ∀ x y, x ∈ l → R x y → φ x = ψ y) : l.map φ = m.map ψ := by
 refine List.ext_getElem? fun i => ?_
 rw [List.getElem?_map, List.getElem?_map]
 by_cases hi : i < l.length
 ·have hx : l[i]? = some l[i] := List.getElem?_eq_getElem hi
  have hy : m[i]? = some (m[i]'(by omega)) := List.getElem?_eq_getElem (by omega)
  rw [hx, hy]
  show some (φ l[i]) = some (ψ _)
  rw [hR _ _ (List.getElem_mem hi) (h i _ _ hx hy)]
 ·rw [List.getElem?_eq_none (by omega), List.getElem?_eq_none (by omega)]
  rfl
theorem zgd {α : Type} {R : α → α → Prop} {l m : List α} (hl : m.length = l.length) (h : ∀ (i : Nat) (x y : α), l[i]? = some x → m[i]? = some y → R x y) {y : α} (hy : y ∈ m) : ∃ x ∈ l, R x y := by
 obtain ⟨i, hi⟩ := List.getElem?_of_mem hy
 have h1 := (List.getElem?_eq_some_iff.1 hi).1
 have hx : l[i]? = some (l[i]'(by omega)) := List.getElem?_eq_getElem (by omega)
 exact ⟨_, List.mem_of_getElem? hx, h i _ _ hx hi⟩
theorem zi9 : ∀ {h : Nat} {t u : Tr.T h}, LdT h t u → ents h u = ents h t
 | 0, _, _, l => l.2.2
 | h + 1, t, u, l => by
   show (u.2.map (ents h)).flatten = (t.2.map (ents h)).flatten
   rw [zi7 l.2.2.1 l.2.2.2 (φ := ents h) (ψ := ents h) fun x y _ r => (zi9 r).symm]
theorem zpz : ∀ {h : Nat} {t u : Tr.T h}, Tr.Ok h t → LdT h t u → (nd h u).Ks.getD 0 default = (nd h t).Ks.getD 0 default
 | 0, t, u, ok, l => by
   show u.1.Ks.getD 0 default = t.1.Ks.getD 0 default
   rw [l.1.Ks, ok.1.Ks]
 | h + 1, t, u, ok, l => by
   show u.1.Ks.getD 0 default = t.1.Ks.getD 0 default
   have e : t.1.Ks = (t.2.map (nd h)).map (fun x => x.Ks.getD 0 default) := ok.1.Ks
   rw [l.1.2.2.1, e, List.map_map]
   rfl
theorem zoS : ∀ {h : Nat} {t u : Tr.T h}, Tr.Ok h t → LdT h t u → Tr.Ok h u
 | 0, t, u, ok, l => ⟨by rw [l.2.2]; exact l.1, by rw [l.2.2]; exact ok.2⟩
 | h + 1, t, u, ok, l => by
   obtain ⟨⟨l1, l2, l3, l4, l5⟩, l6, l7, l8⟩ := l
   refine ⟨⟨l1, l2, ?_, l4, by rw [l5, List.map_map]; rfl⟩, by rw [l7]; exact ok.2.1, fun v hv => ?_⟩
   ·rw [l3, List.map_map]
    exact zi7 l7 l8 (φ := fun k => (nd h k).Ks.getD 0 default) (ψ := fun k => (nd h k).Ks.getD 0 default) fun x y hx r => (zpz (ok.2.2 x hx) r).symm
   ·obtain ⟨k, hk, r⟩ := zgd l7 l8 hv
    exact zoS (ok.2.2 k hk) r
theorem zi8 : ∀ {h : Nat} {t u : Tr.T h}, LdT h t u → Tr.Good h t → Tr.Good h u
 | 0, t, u, l, g => by
   obtain ⟨g1, g2⟩ := g
   exact ⟨by rw [l.2.2]; exact g1, by rw [l.2.2]; exact g2⟩
 | h + 1, t, u, l, g => ⟨by rw [l.2.2.1]; exact g.1, by rw [l.2.2.1]; exact g.2.1, fun v hv => by
  obtain ⟨k, hk, r⟩ := zgd l.2.2.1 l.2.2.2 hv
  exact zi8 r (g.2.2 k hk)⟩
theorem znD : ∀ {h : Nat} {t u : Tr.T h}, LdT h t u → Tr.Root h t → Tr.Root h u
 | 0, t, u, l, g => by
   obtain ⟨g1, g2⟩ := g
   exact ⟨by rw [l.2.2]; exact g1, by rw [l.2.2]; exact g2⟩
 | h + 1, t, u, l, g => ⟨by rw [l.2.2.1]; exact g.1, by rw [l.2.2.1]; exact g.2.1, fun v hv => by
  obtain ⟨k, hk, r⟩ := zgd l.2.2.1 l.2.2.2 hv
  exact zi8 r (g.2.2 k hk)⟩
theorem zlx {h : Nat} {t u : Tr.T h} {L : List EntD} (l : LdT h t u) (H : Has h t L) : Has h u L := ⟨zoS H.ok l, znD l H.size, by rw [zi9 l]; exact H.row, H.asc⟩
theorem zcX : ∀ (h : Nat) (t : Tr.T h), (pre h t).Perm (pl h t)
 | 0, t => List.Perm.refl _
 | h + 1, t => by
   have key : ∀ ks : List (Tr.T h), ((ks.map (pre h)).flatten).Perm ((ks.map (pl h)).flatten) := fun ks => by
    induction ks with
    | nil => exact List.Perm.refl _
    | cons x r ih => exact (zcX h x).append ih
   show (t.1.a :: (t.2.map (pre h)).flatten).Perm ((t.2.map (pl h)).flatten ++ [t.1.a])
   exact ((key t.2).cons _).trans (List.perm_append_comm (l₁ := [t.1.a]))
theorem zf4 : ∀ (h : Nat) (t : Tr.T h), (pre h t).length = (nds h t).length
 | 0, t => rfl
 | h + 1, t => by
   show ((t.2.map (pre h)).flatten).length + 1 = ((t.2.map (nds h)).flatten).length + 1
   rw [List.length_flatten, List.length_flatten, List.map_map, List.map_map]
   congr 2
   exact List.map_congr_left fun k _ => zf4 h k
end Go.Proofs.YtaghmffgoomebaaGreat.St
