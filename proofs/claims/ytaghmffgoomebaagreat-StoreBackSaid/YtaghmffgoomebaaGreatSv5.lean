/- store's saver: a node and all below it. -/
import Derived.Test.YtaghmffgoomebaaGreatSvB
import Derived.Test.YtaghmffgoomebaaGreatNdP
set_option linter.unusedVariables false
set_option linter.unusedSimpArgs false
namespace Go.Proofs.YtaghmffgoomebaaGreat.St
open Go.RowKit Mem Gx Bytes Dk Al Rf Hp Nd Ch
open Tr hiding T row
set_option maxRecDepth 100000
set_option maxHeartbeats 8000000
def SaveC (h : Nat) (t : Tr.T h) : Prop := ∀ (sp g pa n : Nat) (sv : Value) (S : List SecD) (s : SvS) (q : SvQ) (w : World), n ≤ 94 → s.k + fr h t ≤ n → s.l.length + (nds h t).length ≤ 10000 → q.W.length + (nds h t).length ≤ 90000 → S.length = 100 → SvOk n S s q → Rd1 w (slF h t) → (∀ b, (packF (svF sp g pa n sv S s q ++ [hdF h t])).S b → ¬ (slF h t).S b) → Rd1 w (packF (svF sp g pa n sv S s q ++ [hdF h t])) →
 Calls Tryz.prog 42 [.pointer (some ⟨sp, 0, none⟩), .pointer (some ⟨(nd h t).g, 0, none⟩)].toArray w (RetM (packF (svF sp g pa n sv S s q ++ [hdF h t])) (SvOk n S (svT h t s).2) (fun _ => .int .i64 0) (fun q' => packF (svF sp g pa n sv S (svT h t s).2 q' ++ [hdF h (svT h t s).1])) w)
abbrev PutX (X : List Int) (w : World) : Ending → World → Prop := Ret (fun u : SlV => u.Ok X.length) (fun u => .tuple #[u.v, .int .i64 0]) (fun u => [sl u.A 1 (IE .u8) X]) w
theorem zm5 {h : Nat} {ks : List (Tr.T h)} {i : Nat} {k : Tr.T h} (hk : ks[i]? = some k) (s : SvS) : (svL (svT h) (ks.take (i + 1)) s).1 = (svL (svT h) (ks.take i) s).1 ++ [(svT h k (svL (svT h) (ks.take i) s).2).1] ∧ (svL (svT h) (ks.take (i + 1)) s).2 = (svT h k (svL (svT h) (ks.take i) s).2).2 := by
 obtain ⟨hi, e⟩ := List.getElem?_eq_some_iff.1 hk
 rw [List.take_succ_eq_append_getElem hi, e, ziC]
 exact ⟨rfl, rfl⟩
theorem ze5 {α : Type} {ks : List α} {i : Nat} {k : α} (hk : ks[i]? = some k) : ks.drop i = k :: ks.drop (i + 1) := by
 obtain ⟨hi, e⟩ := List.getElem?_eq_some_iff.1 hk
 rw [List.drop_eq_getElem_cons hi, e]
theorem zmd {h : Nat} (ks : List (Tr.T h)) : ((ks.map (nds h)).flatten).map NodeD.g = (ks.map (gs h)).flatten := by
 rw [List.map_flatten, List.map_map]
 congr 1
 exact List.map_congr_left fun k _ => (zeT h k).symm
theorem zhF {α : Type} (f : α → Nat) (l : List α) (i : Nat) {k : α} (hk : l[i]? = some k) : ((l.take i).map f).sum + f k ≤ (l.map f).sum := by
 obtain ⟨hi, e⟩ := List.getElem?_eq_some_iff.1 hk
 conv => rhs; rw [← List.take_append_drop i l, List.map_append, List.sum_append, List.drop_eq_getElem_cons hi, List.map_cons, List.sum_cons, e]
 omega
theorem zo6 : ∀ (h : Nat) (t : Tr.T h) (s : SvS), (svT h t s).2.l.length = s.l.length + (nds h t).length ∧ (svT h t s).2.W.length ≤ s.W.length + (nds h t).length := by
 have kN : ∀ (d : NodeD) (X : List Int) (s : SvS), (svN d X s).2.l.length = s.l.length + 1 ∧ (svN d X s).2.W.length ≤ s.W.length + 1 := fun d X s => by
  unfold svN
  split
  ·exact ⟨by show (s.l ++ [_]).length = _; rw [List.length_append]; rfl, by show (s.W ++ [_]).length ≤ _; rw [List.length_append]; exact Nat.le_refl _⟩
  ·exact ⟨by show (s.l ++ [_]).length = _; rw [List.length_append]; rfl, Nat.le_succ _⟩
 intro h
 induction h with
 | zero => exact fun t s => kN _ _ _
 | succ h ih =>
   intro t s
   have key : ∀ (l : List (Tr.T h)) (s : SvS), (svL (svT h) l s).2.l.length = s.l.length + ((l.map (nds h)).flatten).length ∧ (svL (svT h) l s).2.W.length ≤ s.W.length + ((l.map (nds h)).flatten).length := fun l => by
    induction l with
    | nil => exact fun s => ⟨rfl, Nat.le_refl _⟩
    | cons x r ih2 =>
      intro s
      have h1 := ih x s
      have h2 := ih2 (svT h x s).2
      rw [List.map_cons, List.flatten_cons, List.length_append]
      exact ⟨by show (svL (svT h) r (svT h x s).2).2.l.length = _; omega, by show (svL (svT h) r (svT h x s).2).2.W.length ≤ _; omega⟩
   have h1 := key t.2 s
   have h2 := kN t.1 (Page.page 4 (nodeB (kidE h (svL (svT h) t.2 s).1))) (svL (svT h) t.2 s).2
   have e : (nds (h + 1) t).length = ((t.2.map (nds h)).flatten).length + 1 := rfl
   rw [e]
   exact ⟨by show (svN t.1 _ _).2.l.length = _; omega, by show (svN t.1 _ _).2.W.length ≤ _; omega⟩
theorem zfR {h : Nat} : ∀ (l : List (Tr.T h)) (s : SvS), (svL (svT h) l s).2.l.length = s.l.length + ((l.map (nds h)).flatten).length ∧ (svL (svT h) l s).2.W.length ≤ s.W.length + ((l.map (nds h)).flatten).length
 | [], s => ⟨rfl, Nat.le_refl _⟩
 | x :: r, s => by
   have h1 := zo6 h x s
   have h2 := zfR r (svT h x s).2
   rw [List.map_cons, List.flatten_cons, List.length_append]
   exact ⟨by show (svL (svT h) r (svT h x s).2).2.l.length = _; omega, by show (svL (svT h) r (svT h x s).2).2.W.length ≤ _; omega⟩
theorem znC {h : Nat} {ks : List (Tr.T h)} {i : Nat} {k : Tr.T h} (hk : ks[i]? = some k) : (((ks.take i).map (nds h)).flatten).length + (nds h k).length ≤ ((ks.map (nds h)).flatten).length := by
 have e : ∀ l : List (Tr.T h), ((l.map (nds h)).flatten).length = (l.map fun x => (nds h x).length).sum := fun l => by rw [List.length_flatten, List.map_map]; rfl
 rw [e, e]
 exact zhF (fun x => (nds h x).length) ks i hk
theorem zgW {h : Nat} (dg : Nat) (lf : Bool) (KA VA CA : Option Addr) (Km Kc Vn Vc Cc : Nat) (Ks : List KeyD) (Vs : List Int) (Cs : List Nat) (da : Int) (ks : List (Tr.T h)) (X : List Int) (sp g pa n : Nat) (sv : Value) (S : List SecD) (s : SvS) (q0 : SvQ) (w : World)
 (hok : NodeD.Ok (⟨dg, lf, ⟨KA, Km, Kc⟩, Ks, ⟨VA, Vn, Vc⟩, Vs, ⟨CA, Cs.length, Cc⟩, Cs, da⟩ : NodeD)) (hCs : Cs = (ks.map (nd h)).map NodeD.g) (hnd : (dg :: ((ks.map (nds h)).flatten).map NodeD.g).Nodup) (hn : n ≤ 94) (hfr : s.k + ((ks.map (fr h)).sum + frN (⟨dg, lf, ⟨KA, Km, Kc⟩, Ks, ⟨VA, Vn, Vc⟩, Vs, ⟨CA, Cs.length, Cc⟩, Cs, da⟩ : NodeD)) ≤ n) (hl : s.l.length + (((ks.map (nds h)).flatten).length + 1) ≤ 10000) (hW : q0.W.length + (((ks.map (nds h)).flatten).length + 1) ≤ 90000) (hSl : S.length = 100) (hq : SvOk n S s q0)
 (IH : ∀ k ∈ ks, SaveC h k) (hX : SecOk X) (hput : da = 0 → ∀ w, Rd1 w (blk dg [.bool lf, .slice KA Km Kc, .slice VA Vn Vc, .slice CA Cs.length Cc, .int .u32 da] 109) → Rd1 w (slD (⟨dg, lf, ⟨KA, Km, Kc⟩, Ks, ⟨VA, Vn, Vc⟩, Vs, ⟨CA, Cs.length, Cc⟩, Cs, da⟩ : NodeD)) → Rd1 w (hdL (svL (svT h) ks s).1) → Calls Tryz.prog 70 [.pointer (some ⟨dg, 0, none⟩)].toArray w (PutX X w))
 (hsl : Rd1 w (allF ((⟨dg, lf, ⟨KA, Km, Kc⟩, Ks, ⟨VA, Vn, Vc⟩, Vs, ⟨CA, Cs.length, Cc⟩, Cs, da⟩ : NodeD) :: (ks.map (nds h)).flatten) slD)) (hdis : ∀ b, (packF (svF sp g pa n sv S s q0 ++ [hdX (⟨dg, lf, ⟨KA, Km, Kc⟩, Ks, ⟨VA, Vn, Vc⟩, Vs, ⟨CA, Cs.length, Cc⟩, Cs, da⟩ : NodeD) ks])).S b → ¬ (allF ((⟨dg, lf, ⟨KA, Km, Kc⟩, Ks, ⟨VA, Vn, Vc⟩, Vs, ⟨CA, Cs.length, Cc⟩, Cs, da⟩ : NodeD) :: (ks.map (nds h)).flatten) slD).S b) (hp : Rd1 w (packF (svF sp g pa n sv S s q0 ++ [hdX (⟨dg, lf, ⟨KA, Km, Kc⟩, Ks, ⟨VA, Vn, Vc⟩, Vs, ⟨CA, Cs.length, Cc⟩, Cs, da⟩ : NodeD) ks]))) :
 Calls Tryz.prog 42 [.pointer (some ⟨sp, 0, none⟩), .pointer (some ⟨dg, 0, none⟩)].toArray w (RetM (packF (svF sp g pa n sv S s q0 ++ [hdX (⟨dg, lf, ⟨KA, Km, Kc⟩, Ks, ⟨VA, Vn, Vc⟩, Vs, ⟨CA, Cs.length, Cc⟩, Cs, da⟩ : NodeD) ks])) (SvOk n S (svN (⟨dg, lf, ⟨KA, Km, Kc⟩, Ks, ⟨VA, Vn, Vc⟩, Vs, ⟨CA, Cs.length, Cc⟩, Cs, da⟩ : NodeD) X (svL (svT h) ks s).2).2) (fun _ => .int .i64 0) (fun q' => packF (svF sp g pa n sv S (svN (⟨dg, lf, ⟨KA, Km, Kc⟩, Ks, ⟨VA, Vn, Vc⟩, Vs, ⟨CA, Cs.length, Cc⟩, Cs, da⟩ : NodeD) X (svL (svT h) ks s).2).2 q' ++ [hdX (svN (⟨dg, lf, ⟨KA, Km, Kc⟩, Ks, ⟨VA, Vn, Vc⟩, Vs, ⟨CA, Cs.length, Cc⟩, Cs, da⟩ : NodeD) X (svL (svT h) ks s).2).1 (svL (svT h) ks s).1])) w) := by
 obtain ⟨r, hr⟩ : ∃ r, r = svN (⟨dg, lf, ⟨KA, Km, Kc⟩, Ks, ⟨VA, Vn, Vc⟩, Vs, ⟨CA, Cs.length, Cc⟩, Cs, da⟩ : NodeD) X (svL (svT h) ks s).2 := ⟨_, rfl⟩
 rw [← hr]
 have hc1 : Cs.length ≤ Cc := hok.C.c
 have hc2 : Cc ≤ maxLen := hok.C.mx
 unfold maxLen at hc2
 have hCl : Cs.length = ks.length := by rw [hCs, List.length_map, List.length_map]
 have hdD : Der [allF ((⟨dg, lf, ⟨KA, Km, Kc⟩, Ks, ⟨VA, Vn, Vc⟩, Vs, ⟨CA, Cs.length, Cc⟩, Cs, da⟩ : NodeD) :: (ks.map (nds h)).flatten) slD] (slD (⟨dg, lf, ⟨KA, Km, Kc⟩, Ks, ⟨VA, Vn, Vc⟩, Vs, ⟨CA, Cs.length, Cc⟩, Cs, da⟩ : NodeD)) := Der.elem (L := (⟨dg, lf, ⟨KA, Km, Kc⟩, Ks, ⟨VA, Vn, Vc⟩, Vs, ⟨CA, Cs.length, Cc⟩, Cs, da⟩ : NodeD) :: (ks.map (nds h)).flatten) (F := slD) (x := (⟨dg, lf, ⟨KA, Km, Kc⟩, Ks, ⟨VA, Vn, Vc⟩, Vs, ⟨CA, Cs.length, Cc⟩, Cs, da⟩ : NodeD)) (Der.mem (.head _)) (.head _)
 have hdC : Der [allF ((⟨dg, lf, ⟨KA, Km, Kc⟩, Ks, ⟨VA, Vn, Vc⟩, Vs, ⟨CA, Cs.length, Cc⟩, Cs, da⟩ : NodeD) :: (ks.map (nds h)).flatten) slD] (sl CA 1 PE Cs) := (Der.elem (L := slL (⟨dg, lf, ⟨KA, Km, Kc⟩, Ks, ⟨VA, Vn, Vc⟩, Vs, ⟨CA, Cs.length, Cc⟩, Cs, da⟩ : NodeD)) (F := id) (x := sl CA 1 PE Cs) (show Der [slD (⟨dg, lf, ⟨KA, Km, Kc⟩, Ks, ⟨VA, Vn, Vc⟩, Vs, ⟨CA, Cs.length, Cc⟩, Cs, da⟩ : NodeD)] (allF (slL (⟨dg, lf, ⟨KA, Km, Kc⟩, Ks, ⟨VA, Vn, Vc⟩, Vs, ⟨CA, Cs.length, Cc⟩, Cs, da⟩ : NodeD)) id) from Der.mem (.head _)) (.tail _ (.tail _ (.head _)))).trans fun ψ hψ => by
  obtain rfl := m1 hψ
  exact hdD
 have hC : Rd1 w (sl CA 1 PE Cs) := hdC.rd fun ψ hψ => by obtain rfl := m1 hψ; exact hsl
 have hW0 : s.W.length = q0.W.length := by
  have := congrArg List.length hq.w
  rw [ws, List.length_map, List.length_map] at this
  exact this.symm
 refine zab T (finE (packF (svF sp g pa n sv S s q0 ++ [hdX (⟨dg, lf, ⟨KA, Km, Kc⟩, Ks, ⟨VA, Vn, Vc⟩, Vs, ⟨CA, Cs.length, Cc⟩, Cs, da⟩ : NodeD) ks])) w) (svF sp g pa n sv S s q0 ++ [hdX (⟨dg, lf, ⟨KA, Km, Kc⟩, Ks, ⟨VA, Vn, Vc⟩, Vs, ⟨CA, Cs.length, Cc⟩, Cs, da⟩ : NodeD) ks]) [allF ((⟨dg, lf, ⟨KA, Km, Kc⟩, Ks, ⟨VA, Vn, Vc⟩, Vs, ⟨CA, Cs.length, Cc⟩, Cs, da⟩ : NodeD) :: (ks.map (nds h)).flatten) slD, sl CA 1 PE Cs] Tryz.func42 rfl Tryz.ntmps42 rfl (Kn.startP hp (fun b hb => (zaB hp.2 b).2 hb) (fun ψ hψ => by
  rcases List.mem_cons.1 hψ with rfl | hψ
  ·exact ⟨hsl, hdis⟩
  ·obtain rfl := m1 hψ
   refine ⟨hC, fun b hb hb2 => hdis b hb ?_⟩
   obtain ⟨ψ, h1, h2⟩ := hdC.S b hb2
   obtain rfl := m1 h1
   exact h2)) ?_
 dsimp only [svF, List.cons_append, List.nil_append]
 refine zdh (packF [blk dg [.bool lf, .slice KA Km Kc, .slice VA Vn Vc, .slice CA Cs.length Cc, .int .u32 da] 109, hdL ([] : List (Tr.T h)), hdL ks]) (φ := hdX (⟨dg, lf, ⟨KA, Km, Kc⟩, Ks, ⟨VA, Vn, Vc⟩, Vs, ⟨CA, Cs.length, Cc⟩, Cs, da⟩ : NodeD) ks) sE (zjh (h := h) (d := (⟨dg, lf, ⟨KA, Km, Kc⟩, Ks, ⟨VA, Vn, Vc⟩, Vs, ⟨CA, Cs.length, Cc⟩, Cs, da⟩ : NodeD)) (ks := ks) hnd).1 (zjh (h := h) (d := (⟨dg, lf, ⟨KA, Km, Kc⟩, Ks, ⟨VA, Vn, Vc⟩, Vs, ⟨CA, Cs.length, Cc⟩, Cs, da⟩ : NodeD)) (ks := ks) hnd).2 ?_
 refine zbM (l := [blk dg [.bool lf, .slice KA Km Kc, .slice VA Vn Vc, .slice CA Cs.length Cc, .int .u32 da] 109, hdL ([] : List (Tr.T h)), hdL ks]) sE ?_
 dsimp only [List.cons_append, List.nil_append]
 (repeat' (first | (refine gH ?_; try intro _) | (refine gS ?_ ?_ <;> intro _) | fail))
 refine gL2 (fun (i : Nat) (q : SvQ) => i ≤ ks.length ∧ SvOk n S (svL (svT h) (ks.take i) s).2 q) (fun i q => [(0, .pointer (some ⟨sp, 0, none⟩)), (1, .pointer (some ⟨dg, 0, none⟩)), (15, .slice CA Cs.length Cc), (16, .int .i64 (Cs.length : Nat)), (17, .int .i64 i)]) (fun i q => [blk dg [.bool lf, .slice KA Km Kc, .slice VA Vn Vc, .slice CA Cs.length Cc, .int .u32 da] 109, hdL (svL (svT h) (ks.take i) s).1, hdL (ks.drop i), blk sp [.pointer (some ⟨g, 0, none⟩), .int .i64 ((4 : Nat) : Int), .pointer (some ⟨pa, 0, none⟩), .slice q.A (svL (svT h) (ks.take i) s).2.l.length q.c] 103, own 0 26 1 (.slice q.A (svL (svT h) (ks.take i) s).2.l.length q.c) (IE .u32) (svL (svT h) (ks.take i) s).2.l, alF pa n q.D (alK n (svL (svT h) (ks.take i) s).2.k), dkF g ⟨sv, q.lv, S, q.W⟩]) (fun i q => [allF ((⟨dg, lf, ⟨KA, Km, Kc⟩, Ks, ⟨VA, Vn, Vc⟩, Vs, ⟨CA, Cs.length, Cc⟩, Cs, da⟩ : NodeD) :: (ks.map (nds h)).flatten) slD, sl CA 1 PE Cs]) (fun i q => ks.length - i) 0 q0 ⟨Nat.zero_le _, hq⟩ ?_
 rintro i q hI
 obtain ⟨hi, hqi⟩ := hI
 by_cases hlt : i < ks.length
 ·--<kid
  obtain ⟨k, hki⟩ : ∃ k, ks[i]? = some k := ⟨ks[i], List.getElem?_eq_getElem hlt⟩
  have hkm := List.mem_of_getElem? hki
  have hy0 : Cs[i]? = some (nd h k).g := by rw [hCs, List.getElem?_map, List.getElem?_map, hki]; rfl
  obtain ⟨e1, e2⟩ := zm5 hki s
  have b1 := (zjL (svT h) (fr h) (pl h) (zex h) (ks.take i) s).1
  have b2 := zhF (fr h) ks i hki
  have b3 := zfR (ks.take i) s
  have b4 := znC hki
  have b5 : q.W.length = (svL (svT h) (ks.take i) s).2.W.length := by
   have := congrArg List.length hqi.w
   rw [ws, List.length_map, List.length_map] at this
   exact this
  have hdk : Der [allF ((⟨dg, lf, ⟨KA, Km, Kc⟩, Ks, ⟨VA, Vn, Vc⟩, Vs, ⟨CA, Cs.length, Cc⟩, Cs, da⟩ : NodeD) :: (ks.map (nds h)).flatten) slD] (slF h k) := Der.all fun x hx => Der.elem (L := (⟨dg, lf, ⟨KA, Km, Kc⟩, Ks, ⟨VA, Vn, Vc⟩, Vs, ⟨CA, Cs.length, Cc⟩, Cs, da⟩ : NodeD) :: (ks.map (nds h)).flatten) (F := slD) (Der.mem (.head _)) (.tail _ (List.mem_flatten.2 ⟨_, List.mem_map.2 ⟨k, hkm, rfl⟩, hx⟩))
  have hIH := fun w h1 h2 h3 => IH k hkm sp g pa n sv S (svL (svT h) (ks.take i) s).2 q w hn (by omega) (by omega) (by omega) hSl hqi h1 h2 h3
  rw [← e2] at hIH
  have hpart : (∀ w : World, (hdL (ks.drop i)).p w → (packF [hdF h k, hdL (ks.drop (i + 1))]).p w) ∧ ∀ b, (packF [hdF h k, hdL (ks.drop (i + 1))]).S b → (hdL (ks.drop i)).S b := by
   rw [ze5 hki, znO]
   refine zpH ?_
   rw [← List.map_append]
   have e : nds h k ++ ((ks.drop (i + 1)).map (nds h)).flatten = ((ks.drop i).map (nds h)).flatten := by rw [ze5 hki]; rfl
   rw [e, zmd]
   have h2 := (List.nodup_cons.1 hnd).2
   rw [zmd] at h2
   have e3 : (ks.map (gs h)).flatten = ((ks.map (gs h)).take i).flatten ++ ((ks.map (gs h)).drop i).flatten := by rw [← List.flatten_append, List.take_append_drop]
   rw [e3] at h2
   rw [List.map_drop]
   exact (List.nodup_append.1 h2).2.1
  have hjoin : (∀ w : World, (packF [hdL (svL (svT h) (ks.take i) s).1, hdF h (svT h k (svL (svT h) (ks.take i) s).2).1]).p w → (hdL (svL (svT h) (ks.take (i + 1)) s).1).p w) ∧ ∀ b, (hdL (svL (svT h) (ks.take (i + 1)) s).1).S b → (packF [hdL (svL (svT h) (ks.take i) s).1, hdF h (svT h k (svL (svT h) (ks.take i) s).2).1]).S b := by
   rw [e1, znN]
   exact zpI
  refine zar (A := CA) (enc := PE) (L := Cs) i mE (by omega) (by decide) (fun b0 o0 y eA hy => ?_)
  subst eA
  obtain rfl : (nd h k).g = y := Option.some.inj (hy0.symm.trans hy)
  have hcall := fun (w : World) (r1 : Rd1 w (allF ((⟨dg, lf, ⟨KA, Km, Kc⟩, Ks, ⟨VA, Vn, Vc⟩, Vs, ⟨some ⟨b0, o0, none⟩, Cs.length, Cc⟩, Cs, da⟩ : NodeD) :: (ks.map (nds h)).flatten) slD)) (r2 : ∀ b, (packF [blk sp [.pointer (some ⟨g, 0, none⟩), .int .i64 ((4 : Nat) : Int), .pointer (some ⟨pa, 0, none⟩), .slice q.A (svL (svT h) (ks.take i) s).2.l.length q.c] 103, own 0 26 1 (.slice q.A (svL (svT h) (ks.take i) s).2.l.length q.c) (IE .u32) (svL (svT h) (ks.take i) s).2.l, alF pa n q.D (alK n (svL (svT h) (ks.take i) s).2.k), dkF g ⟨sv, q.lv, S, q.W⟩, hdF h k]).S b → ¬ (allF ((⟨dg, lf, ⟨KA, Km, Kc⟩, Ks, ⟨VA, Vn, Vc⟩, Vs, ⟨some ⟨b0, o0, none⟩, Cs.length, Cc⟩, Cs, da⟩ : NodeD) :: (ks.map (nds h)).flatten) slD).S b) (r3 : Rd1 w (packF [blk sp [.pointer (some ⟨g, 0, none⟩), .int .i64 ((4 : Nat) : Int), .pointer (some ⟨pa, 0, none⟩), .slice q.A (svL (svT h) (ks.take i) s).2.l.length q.c] 103, own 0 26 1 (.slice q.A (svL (svT h) (ks.take i) s).2.l.length q.c) (IE .u32) (svL (svT h) (ks.take i) s).2.l, alF pa n q.D (alK n (svL (svT h) (ks.take i) s).2.k), dkF g ⟨sv, q.lv, S, q.W⟩, hdF h k])) => hIH w (hdk.rd fun ψ hψ => by obtain rfl := m1 hψ; exact r1) (fun b hb hb2 => by
   obtain ⟨ψ, h1, h2⟩ := hdk.S b hb2
   obtain rfl := m1 h1
   exact r2 b hb h2) r3
  (repeat' (first | (refine gH ?_; try intro _) | (refine gS ?_ ?_ <;> intro _) | fail))
  refine zl6 (packF [hdF h k, hdL (ks.drop (i + 1))]) (φ := hdL (ks.drop i)) sE hpart.1 hpart.2 ?_
  refine zbJ (l := [hdF h k, hdL (ks.drop (i + 1))]) sE ?_
  dsimp only [List.cons_append, List.nil_append]
  refine zcD [blk sp [.pointer (some ⟨g, 0, none⟩), .int .i64 ((4 : Nat) : Int), .pointer (some ⟨pa, 0, none⟩), .slice q.A (svL (svT h) (ks.take i) s).2.l.length q.c] 103, own 0 26 1 (.slice q.A (svL (svT h) (ks.take i) s).2.l.length q.c) (IE .u32) (svL (svT h) (ks.take i) s).2.l, alF pa n q.D (alK n (svL (svT h) (ks.take i) s).2.k), dkF g ⟨sv, q.lv, S, q.W⟩, hdF h k] [blk dg [.bool lf, .slice KA Km Kc, .slice VA Vn Vc, .slice (some ⟨b0, o0, none⟩) Cs.length Cc, .int .u32 da] 109, hdL (svL (svT h) (ks.take i) s).1, hdL (ks.drop (i + 1))] sA ?_
  refine g_mv rfl (zax (φ := packF [blk sp [.pointer (some ⟨g, 0, none⟩), .int .i64 ((4 : Nat) : Int), .pointer (some ⟨pa, 0, none⟩), .slice q.A (svL (svT h) (ks.take i) s).2.l.length q.c] 103, own 0 26 1 (.slice q.A (svL (svT h) (ks.take i) s).2.l.length q.c) (IE .u32) (svL (svT h) (ks.take i) s).2.l, alF pa n q.D (alK n (svL (svT h) (ks.take i) s).2.k), dkF g ⟨sv, q.lv, S, q.W⟩, hdF h k]) (ψ := fun q' : SvQ => packF (svF sp g pa n sv S (svL (svT h) (ks.take (i + 1)) s).2 q' ++ [hdF h (svT h k (svL (svT h) (ks.take i) s).2).1])) (fun w hk => by exact hcall w (hk.rR (φ := allF ((⟨dg, lf, ⟨KA, Km, Kc⟩, Ks, ⟨VA, Vn, Vc⟩, Vs, ⟨some ⟨b0, o0, none⟩, Cs.length, Cc⟩, Cs, da⟩ : NodeD) :: (ks.map (nds h)).flatten) slD) mE) (fun b hb => hk.disR (packF [blk sp [.pointer (some ⟨g, 0, none⟩), .int .i64 ((4 : Nat) : Int), .pointer (some ⟨pa, 0, none⟩), .slice q.A (svL (svT h) (ks.take i) s).2.l.length q.c] 103, own 0 26 1 (.slice q.A (svL (svT h) (ks.take i) s).2.l.length q.c) (IE .u32) (svL (svT h) (ks.take i) s).2.l, alF pa n q.D (alK n (svL (svT h) (ks.take i) s).2.k), dkF g ⟨sv, q.lv, S, q.W⟩, hdF h k]) mE (allF ((⟨dg, lf, ⟨KA, Km, Kc⟩, Ks, ⟨VA, Vn, Vc⟩, Vs, ⟨some ⟨b0, o0, none⟩, Cs.length, Cc⟩, Cs, da⟩ : NodeD) :: (ks.map (nds h)).flatten) slD) mE b hb) (hk.rO (φ := packF [blk sp [.pointer (some ⟨g, 0, none⟩), .int .i64 ((4 : Nat) : Int), .pointer (some ⟨pa, 0, none⟩), .slice q.A (svL (svT h) (ks.take i) s).2.l.length q.c] 103, own 0 26 1 (.slice q.A (svL (svT h) (ks.take i) s).2.l.length q.c) (IE .u32) (svL (svT h) (ks.take i) s).2.l, alF pa n q.D (alK n (svL (svT h) (ks.take i) s).2.k), dkF g ⟨sv, q.lv, S, q.W⟩, hdF h k]) mE)) rfl rfl rfl rfl rfl kR uD (fun q' hq' => ?_))
  refine zbJ (l := svF sp g pa n sv S (svL (svT h) (ks.take (i + 1)) s).2 q' ++ [hdF h (svT h k (svL (svT h) (ks.take i) s).2).1]) sE ?_
  dsimp only [svF, List.cons_append, List.nil_append]
  refine zcD [hdL (svL (svT h) (ks.take i) s).1, hdF h (svT h k (svL (svT h) (ks.take i) s).2).1] (svF sp g pa n sv S (svL (svT h) (ks.take (i + 1)) s).2 q' ++ [blk dg [.bool lf, .slice KA Km Kc, .slice VA Vn Vc, .slice (some ⟨b0, o0, none⟩) Cs.length Cc, .int .u32 da] 109, hdL (ks.drop (i + 1))]) sA ?_
  refine zl6 (hdL (svL (svT h) (ks.take (i + 1)) s).1) (φ := packF [hdL (svL (svT h) (ks.take i) s).1, hdF h (svT h k (svL (svT h) (ks.take i) s).2).1]) sE hjoin.1 hjoin.2 ?_
  dsimp only [svF, List.cons_append, List.nil_append]
  (repeat' (first | (refine gH ?_; try intro _) | (refine gS ?_ ?_ <;> intro _) | fail))
  refine zag rfl (i + 1, q') ⟨by omega, hq'⟩ (by dsimp only; omega) fS sA sS
 have hi' : i = ks.length := by omega
 subst hi'
 rw [List.take_length] at hqi
 rw [List.take_length, List.drop_length]
 have b1 := (zjL (svT h) (fr h) (pl h) (zex h) ks s).1
 have b3 := zfR ks s
 have b5 : q.W.length = (svL (svT h) ks s).2.W.length := by
  have := congrArg List.length hqi.w
  rw [ws, List.length_map, List.length_map] at this
  exact this
 obtain ⟨s1, hs1⟩ : ∃ s1, s1 = (svL (svT h) ks s).2 := ⟨_, rfl⟩
 rw [← hs1] at hr hqi b1 b3 b5 ⊢
 by_cases ha : da = 0
 case pos =>
  have hf1 : frN (⟨dg, lf, ⟨KA, Km, Kc⟩, Ks, ⟨VA, Vn, Vc⟩, Vs, ⟨CA, Cs.length, Cc⟩, Cs, da⟩ : NodeD) = 1 := by unfold frN; rw [if_pos ha]
  have hr' : r = ({ (⟨dg, lf, ⟨KA, Km, Kc⟩, Ks, ⟨VA, Vn, Vc⟩, Vs, ⟨CA, Cs.length, Cc⟩, Cs, da⟩ : NodeD) with a := (s1.k : Int) + 1 }, ⟨s1.k + 1, s1.l ++ [(s1.k : Int) + 1], s1.W ++ [(s1.k + 1, X)]⟩) := by rw [hr]; unfold svN; rw [if_pos ha]
  subst hr'
  (repeat' (first | (refine gH ?_; try intro _) | (refine gS ?_ ?_ <;> intro _) | fail))
  refine cR (fun w hk => hput ha w (hk.rO (φ := blk dg [.bool lf, .slice KA Km Kc, .slice VA Vn Vc, .slice CA Cs.length Cc, .int .u32 da] 109) mE) (hdD.rd fun ψ hψ => by obtain rfl := m1 hψ; exact hk.rR (φ := allF ((⟨dg, lf, ⟨KA, Km, Kc⟩, Ks, ⟨VA, Vn, Vc⟩, Vs, ⟨CA, Cs.length, Cc⟩, Cs, da⟩ : NodeD) :: (ks.map (nds h)).flatten) slD) mE) (hk.rO (φ := hdL (svL (svT h) ks s).1) mE)) (fun u hu => ?_)
  obtain ⟨uA, un, uc⟩ := u
  obtain ⟨u1, u2, u3, u4⟩ := hu
  dsimp only [SlV.v] at u1 ⊢
  (repeat' (first | (refine gH ?_; try intro _) | (refine gS ?_ ?_ <;> intro _) | fail))
  refine g_mv rfl (zax (φ := alF pa n q.D (alK n s1.k)) (ψ := fun r : AlD × AlS × Int × Int => alF pa n r.1 r.2.1) (fun w1 hk => by exact zhD pa n q.D (alK n s1.k) w1 (by rw [zop]; omega) hqi.a (hk.rO (φ := alF pa n q.D (alK n s1.k)) mE)) rfl rfl rfl rfl rfl kR uD (fun r hr => ?_))
  obtain ⟨D2, s2, y, e⟩ := r
  obtain ⟨hI2, hr2⟩ := hr
  dsimp only at hI2 hr2
  rw [zm2 (by omega)] at hr2
  injection hr2 with h1 h2
  injection h2 with h2 h3
  subst h1 h2 h3
  dsimp only
  refine zbw (φ := sl uA 1 (IE .u8) X) sE ?_
  (repeat' (first | (refine gH ?_; try intro _) | (refine gS ?_ ?_ <;> intro _) | fail))
  refine zaK 56 (.int .u32 ((s1.k + 1 : Nat) : Int)) rfl (by congr 1) ?_
  refine g_mv rfl (zax (φ := dkF g ⟨sv, q.lv, S, q.W⟩) (ψ := fun p : Value × SecD => dkF g ⟨sv, p.1, S, q.W ++ [(⟨s1.k + 1 + 4 + 1, p.2⟩ : WrD)]⟩) (fun w1 hk => by exact zfu g 4 sv q.lv S q.W (s1.k + 1) uA un uc X w1 hqi.d (by omega) (by omega) (by omega) (by decide) (by omega) u1 hX (hk.rO (φ := dkF g ⟨sv, q.lv, S, q.W⟩) mE) (hk.rR (φ := sl uA 1 (IE .u8) X) mE) (fun b hb => hk.disR (dkF g ⟨sv, q.lv, S, q.W⟩) mE (sl uA 1 (IE .u8) X) mE b hb)) rfl rfl rfl rfl rfl kR uD (fun p hp => ?_))
  obtain ⟨lv2, d2⟩ := p
  obtain ⟨hd2, hd3⟩ := hp
  dsimp only at hd2 hd3 ⊢
  (repeat (refine gG ?_; try intro _))
  refine zhq (f' := [(0, .pointer (some ⟨sp, 0, none⟩)), (1, .pointer (some ⟨dg, 0, none⟩))]) (O' := [own 0 26 1 (.slice q.A s1.l.length q.c) (IE .u32) s1.l, blk sp [.pointer (some ⟨g, 0, none⟩), .int .i64 ((4 : Nat) : Int), .pointer (some ⟨pa, 0, none⟩), .slice q.A s1.l.length q.c] 103, blk dg [.bool lf, .slice KA Km Kc, .slice VA Vn Vc, .slice CA Cs.length Cc, .int .u32 ((s1.k : Int) + 1)] 109, alF pa n D2 (alK n (s1.k + 1)), dkF g ⟨sv, lv2, S, q.W ++ [(⟨s1.k + 1 + 4 + 1, d2⟩ : WrD)]⟩, hdL (svL (svT h) ks s).1]) (R' := []) fS sA sS ?_
  refine zas [2] (Cut _ (fun _ : Option Addr × Nat => []) (fun z => [blk dg [.bool lf, .slice KA Km Kc, .slice VA Vn Vc, .slice CA Cs.length Cc, .int .u32 ((s1.k : Int) + 1)] 109, hdL (svL (svT h) ks s).1, blk sp [.pointer (some ⟨g, 0, none⟩), .int .i64 ((4 : Nat) : Int), .pointer (some ⟨pa, 0, none⟩), .slice z.1 (s1.l ++ [(s1.k : Int) + 1]).length z.2] 103, own 0 26 1 (.slice z.1 (s1.l ++ [(s1.k : Int) + 1]).length z.2) (IE .u32) (s1.l ++ [(s1.k : Int) + 1]), alF pa n D2 (alK n (s1.k + 1)), dkF g ⟨sv, lv2, S, q.W ++ [(⟨s1.k + 1 + 4 + 1, d2⟩ : WrD)]⟩]) (fun _ => [])) rfl rfl kR ?_ (zaD fun z => ?_)
  ·skip
   refine gY hT 0 ?_
   refine gY hT 1 ?_
   refine gY hT 2 ?_
   refine gY hT 3 ?_
   refine gY hT 5 ?_
   refine gY hT 6 ?_
   refine gY hT 7 ?_
   refine gW hT 8 ?_
   refine gA2 4 9 ?_ ?_
   ·refine zaC rfl (zaf hT rfl rfl mE rfl rfl) ?_
    refine ⟨sF, ?_⟩
    refine gP 9 ?_
    (refine zaa (len := 1) rfl hT rfl rfl rfl rfl rfl rfl rfl rfl ?_; intro g6)
    refine ⟨sF, ?_⟩
    refine gP 10 ?_
    (refine zac (L := s1.l) rfl [(s1.k : Int) + 1] rfl rfl rfl rfl Ch.zaO uD (zah mE rfl) rfl Ch.oneU sM sN (Nat.zero_le _) ?_; intro v2)
    refine ⟨sF, ?_⟩
    (refine zai v2 mE (fun A3 c3 hv3 _ _ _ => ?_); subst hv3)
    refine gY hT 11 ?_
    refine gY hT 12 ?_
    first | refine gO 13 ?_ | (refine gX 13 ?_; intro _)
    refine zak dK ?_
    exact ⟨(A3, c3), fS, sA, sS⟩
   ·(refine zaa (len := 1) rfl hT rfl rfl rfl rfl rfl rfl rfl rfl ?_; intro g6)
    refine ⟨sF, ?_⟩
    refine gP 4 ?_
    refine zaC rfl (zaf hT rfl rfl mE rfl rfl) ?_
    refine ⟨sF, ?_⟩
    refine gP 10 ?_
    (refine zac (L := s1.l) rfl [(s1.k : Int) + 1] rfl rfl rfl rfl Ch.zaO uD (zah mE rfl) rfl Ch.oneU sM sN (Nat.zero_le _) ?_; intro v2)
    refine ⟨sF, ?_⟩
    (refine zai v2 mE (fun A3 c3 hv3 _ _ _ => ?_); subst hv3)
    refine gY hT 11 ?_
    refine gY hT 12 ?_
    first | refine gO 13 ?_ | (refine gX 13 ?_; intro _)
    refine zak dK ?_
    exact ⟨(A3, c3), fS, sA, sS⟩
  obtain ⟨A3, c3⟩ := z
  dsimp only
  refine zbv [blk dg [.bool lf, .slice KA Km Kc, .slice VA Vn Vc, .slice CA Cs.length Cc, .int .u32 ((s1.k : Int) + 1)] 109, hdL (svL (svT h) ks s).1] (svF sp g pa n sv S ⟨s1.k + 1, s1.l ++ [(s1.k : Int) + 1], s1.W ++ [(s1.k + 1, X)]⟩ ⟨A3, c3, D2, lv2, q.W ++ [(⟨s1.k + 1 + 4 + 1, d2⟩ : WrD)]⟩) sA ?_
  refine zdh (hdX { (⟨dg, lf, ⟨KA, Km, Kc⟩, Ks, ⟨VA, Vn, Vc⟩, Vs, ⟨CA, Cs.length, Cc⟩, Cs, da⟩ : NodeD) with a := (s1.k : Int) + 1 } (svL (svT h) ks s).1) (φ := packF [blk dg [.bool lf, .slice KA Km Kc, .slice VA Vn Vc, .slice CA Cs.length Cc, .int .u32 ((s1.k : Int) + 1)] 109, hdL (svL (svT h) ks s).1]) sE (zem (d := { (⟨dg, lf, ⟨KA, Km, Kc⟩, Ks, ⟨VA, Vn, Vc⟩, Vs, ⟨CA, Cs.length, Cc⟩, Cs, da⟩ : NodeD) with a := (s1.k : Int) + 1 })).1 (zem (d := { (⟨dg, lf, ⟨KA, Km, Kc⟩, Ks, ⟨VA, Vn, Vc⟩, Vs, ⟨CA, Cs.length, Cc⟩, Cs, da⟩ : NodeD) with a := (s1.k : Int) + 1 })).2 ?_
  (repeat (refine gG ?_; try intro _))
  refine zad hT rfl rfl (.tmp rfl .nil) (fun w' hk => ?_)
  exact RetM.mkP (ll := fun q' : SvQ => svF sp g pa n sv S ⟨s1.k + 1, s1.l ++ [(s1.k : Int) + 1], s1.W ++ [(s1.k + 1, X)]⟩ q' ++ [hdX { (⟨dg, lf, ⟨KA, Km, Kc⟩, Ks, ⟨VA, Vn, Vc⟩, Vs, ⟨CA, Cs.length, Cc⟩, Cs, da⟩ : NodeD) with a := (s1.k : Int) + 1 } (svL (svT h) ks s).1]) ⟨A3, c3, D2, lv2, q.W ++ [(⟨s1.k + 1 + 4 + 1, d2⟩ : WrD)]⟩ ⟨hI2, ⟨hqi.d.s, fun x hx => by
   rcases List.mem_append.1 hx with hx | hx
   ·exact hqi.d.w x hx
   ·obtain rfl := m1 hx
    exact ⟨hd2, by dsimp only; omega⟩, hqi.d.n⟩, by
   show (q.W ++ [(⟨s1.k + 1 + 4 + 1, d2⟩ : WrD)]).map WrD.c = ws (s1.W ++ [(s1.k + 1, X)])
   rw [List.map_append, hqi.w, ws, ws, List.map_append, ← hd3]
   rfl⟩ rfl hk (fun b hb => (zaB hp.2 b).1 hb) sA
 have hr' : r = ((⟨dg, lf, ⟨KA, Km, Kc⟩, Ks, ⟨VA, Vn, Vc⟩, Vs, ⟨CA, Cs.length, Cc⟩, Cs, da⟩ : NodeD), ⟨s1.k, s1.l ++ [da], s1.W⟩) := by rw [hr]; unfold svN; rw [if_neg ha]
 subst hr'
 (repeat' (first | (refine gH ?_; try intro _) | (refine gS ?_ ?_ <;> intro _) | fail))
 refine zhq (f' := [(0, .pointer (some ⟨sp, 0, none⟩)), (1, .pointer (some ⟨dg, 0, none⟩))]) (O' := [own 0 26 1 (.slice q.A s1.l.length q.c) (IE .u32) s1.l, blk sp [.pointer (some ⟨g, 0, none⟩), .int .i64 ((4 : Nat) : Int), .pointer (some ⟨pa, 0, none⟩), .slice q.A s1.l.length q.c] 103, blk dg [.bool lf, .slice KA Km Kc, .slice VA Vn Vc, .slice CA Cs.length Cc, .int .u32 da] 109, alF pa n q.D (alK n s1.k), dkF g ⟨sv, q.lv, S, q.W⟩, hdL (svL (svT h) ks s).1]) (R' := []) fS sA sS ?_
 refine zas [2] (Cut _ (fun _ : Option Addr × Nat => []) (fun z => [blk dg [.bool lf, .slice KA Km Kc, .slice VA Vn Vc, .slice CA Cs.length Cc, .int .u32 da] 109, hdL (svL (svT h) ks s).1, blk sp [.pointer (some ⟨g, 0, none⟩), .int .i64 ((4 : Nat) : Int), .pointer (some ⟨pa, 0, none⟩), .slice z.1 (s1.l ++ [da]).length z.2] 103, own 0 26 1 (.slice z.1 (s1.l ++ [da]).length z.2) (IE .u32) (s1.l ++ [da]), alF pa n q.D (alK n s1.k), dkF g ⟨sv, q.lv, S, q.W⟩]) (fun _ => [])) rfl rfl kR ?_ (zaD fun z => ?_)
 ·skip
  refine gY hT 0 ?_
  refine gY hT 1 ?_
  refine gY hT 2 ?_
  refine gY hT 3 ?_
  refine gY hT 5 ?_
  refine gY hT 6 ?_
  refine gY hT 7 ?_
  refine gW hT 8 ?_
  refine gA2 4 9 ?_ ?_
  ·refine zaC rfl (zaf hT rfl rfl mE rfl rfl) ?_
   refine ⟨sF, ?_⟩
   refine gP 9 ?_
   (refine zaa (len := 1) rfl hT rfl rfl rfl rfl rfl rfl rfl rfl ?_; intro g6)
   refine ⟨sF, ?_⟩
   refine gP 10 ?_
   (refine zac (L := s1.l) rfl [da] rfl rfl rfl rfl Ch.zaO uD (zah mE rfl) rfl Ch.oneU sM sN (Nat.zero_le _) ?_; intro v2)
   refine ⟨sF, ?_⟩
   (refine zai v2 mE (fun A3 c3 hv3 _ _ _ => ?_); subst hv3)
   refine gY hT 11 ?_
   refine gY hT 12 ?_
   first | refine gO 13 ?_ | (refine gX 13 ?_; intro _)
   refine zak dK ?_
   exact ⟨(A3, c3), fS, sA, sS⟩
  ·(refine zaa (len := 1) rfl hT rfl rfl rfl rfl rfl rfl rfl rfl ?_; intro g6)
   refine ⟨sF, ?_⟩
   refine gP 4 ?_
   refine zaC rfl (zaf hT rfl rfl mE rfl rfl) ?_
   refine ⟨sF, ?_⟩
   refine gP 10 ?_
   (refine zac (L := s1.l) rfl [da] rfl rfl rfl rfl Ch.zaO uD (zah mE rfl) rfl Ch.oneU sM sN (Nat.zero_le _) ?_; intro v2)
   refine ⟨sF, ?_⟩
   (refine zai v2 mE (fun A3 c3 hv3 _ _ _ => ?_); subst hv3)
   refine gY hT 11 ?_
   refine gY hT 12 ?_
   first | refine gO 13 ?_ | (refine gX 13 ?_; intro _)
   refine zak dK ?_
   exact ⟨(A3, c3), fS, sA, sS⟩
 obtain ⟨A3, c3⟩ := z
 dsimp only
 refine zbv [blk dg [.bool lf, .slice KA Km Kc, .slice VA Vn Vc, .slice CA Cs.length Cc, .int .u32 da] 109, hdL (svL (svT h) ks s).1] (svF sp g pa n sv S ⟨s1.k, s1.l ++ [da], s1.W⟩ ⟨A3, c3, q.D, q.lv, q.W⟩) sA ?_
 refine zdh (hdX (⟨dg, lf, ⟨KA, Km, Kc⟩, Ks, ⟨VA, Vn, Vc⟩, Vs, ⟨CA, Cs.length, Cc⟩, Cs, da⟩ : NodeD) (svL (svT h) ks s).1) (φ := packF [blk dg [.bool lf, .slice KA Km Kc, .slice VA Vn Vc, .slice CA Cs.length Cc, .int .u32 da] 109, hdL (svL (svT h) ks s).1]) sE (zem (d := (⟨dg, lf, ⟨KA, Km, Kc⟩, Ks, ⟨VA, Vn, Vc⟩, Vs, ⟨CA, Cs.length, Cc⟩, Cs, da⟩ : NodeD))).1 (zem (d := (⟨dg, lf, ⟨KA, Km, Kc⟩, Ks, ⟨VA, Vn, Vc⟩, Vs, ⟨CA, Cs.length, Cc⟩, Cs, da⟩ : NodeD))).2 ?_
 (repeat (refine gG ?_; try intro _))
 refine zad hT rfl rfl (.tmp rfl .nil) (fun w' hk => ?_)
 exact RetM.mkP (ll := fun q' : SvQ => svF sp g pa n sv S ⟨s1.k, s1.l ++ [da], s1.W⟩ q' ++ [hdX (⟨dg, lf, ⟨KA, Km, Kc⟩, Ks, ⟨VA, Vn, Vc⟩, Vs, ⟨CA, Cs.length, Cc⟩, Cs, da⟩ : NodeD) (svL (svT h) ks s).1]) ⟨A3, c3, q.D, q.lv, q.W⟩ ⟨hqi.a, hqi.d, hqi.w⟩ rfl hk (fun b hb => (zaB hp.2 b).1 hb) sA
end Go.Proofs.YtaghmffgoomebaaGreat.St
