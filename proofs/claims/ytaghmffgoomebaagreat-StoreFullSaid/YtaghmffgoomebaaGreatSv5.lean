/- store's saver: a node and all below it. -/
import Derived.Test.YtaghmffgoomebaaGreatSv4
import Derived.Test.YtaghmffgoomebaaGreatNd9
import Derived.Test.YtaghmffgoomebaaGreatSv2
namespace Go.Proofs.YtaghmffgoomebaaGreat.St
open Go.RowKit Mem Gx Bytes Dk Al Rf Hp Nd Ch
open Tr hiding T row
set_option linter.unusedVariables false
set_option linter.unusedSimpArgs false
set_option maxRecDepth 100000
set_option maxHeartbeats 8000000
/-- What the saver's call for a tree does. -/
def SaveC (h : Nat) (t : Tr.T h) : Prop := ∀ (sp g pa n : Nat) (sv : Value) (S : List SecD) (s : SvS) (q : SvQ) (w : World), n ≤ 94 → s.k + fr h t ≤ n → s.l.length + (nds h t).length ≤ 10000 → q.W.length + (nds h t).length ≤ 90000 → S.length = 100 → SvOk n S s q → Rd1 w (slF h t) → (∀ b, (packF (svF sp g pa n sv S s q ++ [hdF h t])).S b → ¬ (slF h t).S b) → Rd1 w (packF (svF sp g pa n sv S s q ++ [hdF h t])) →
  Calls Tryz.prog 42 [.pointer (some ⟨sp, 0, none⟩), .pointer (some ⟨(nd h t).g, 0, none⟩)].toArray w (RetM (packF (svF sp g pa n sv S s q ++ [hdF h t])) (SvOk n S (svT h t s).2) (fun _ => .int .i64 0) (fun q' => packF (svF sp g pa n sv S (svT h t s).2 q' ++ [hdF h (svT h t s).1])) w)
/-- What node.Put hands back of a node. -/
abbrev PutX (X : List Int) (w : World) : Ending → World → Prop := Ret (fun u : SlV => u.Ok X.length) (fun u => .tuple #[u.v, .int .i64 0]) (fun u => [sl u.A 1 (IE .u8) X]) w
theorem svL_step {h : Nat} {ks : List (Tr.T h)} {i : Nat} {k : Tr.T h} (hk : ks[i]? = some k) (s : SvS) : (svL (svT h) (ks.take (i + 1)) s).1 = (svL (svT h) (ks.take i) s).1 ++ [(svT h k (svL (svT h) (ks.take i) s).2).1] ∧ (svL (svT h) (ks.take (i + 1)) s).2 = (svT h k (svL (svT h) (ks.take i) s).2).2 := by
  obtain ⟨hi, e⟩ := List.getElem?_eq_some_iff.1 hk
  rw [List.take_succ_eq_append_getElem hi, e, svL_snoc]
  exact ⟨rfl, rfl⟩
theorem drop_step {α : Type} {ks : List α} {i : Nat} {k : α} (hk : ks[i]? = some k) : ks.drop i = k :: ks.drop (i + 1) := by
  obtain ⟨hi, e⟩ := List.getElem?_eq_some_iff.1 hk
  rw [List.drop_eq_getElem_cons hi, e]
theorem flat_g {h : Nat} (ks : List (Tr.T h)) : ((ks.map (nds h)).flatten).map NodeD.g = (ks.map (gs h)).flatten := by
  rw [List.map_flatten, List.map_map]
  congr 1
  exact List.map_congr_left fun k _ => (gs_nds h k).symm
theorem take_le {α : Type} (f : α → Nat) (l : List α) (i : Nat) {k : α} (hk : l[i]? = some k) : ((l.take i).map f).sum + f k ≤ (l.map f).sum := by
  obtain ⟨hi, e⟩ := List.getElem?_eq_some_iff.1 hk
  conv => rhs; rw [← List.take_append_drop i l, List.map_append, List.sum_append, List.drop_eq_getElem_cons hi, List.map_cons, List.sum_cons, e]
  omega
theorem svT_len : ∀ (h : Nat) (t : Tr.T h) (s : SvS), (svT h t s).2.l.length = s.l.length + (nds h t).length ∧ (svT h t s).2.W.length ≤ s.W.length + (nds h t).length := by
  have kN : ∀ (d : NodeD) (X : List Int) (s : SvS), (svN d X s).2.l.length = s.l.length + 1 ∧ (svN d X s).2.W.length ≤ s.W.length + 1 := fun d X s => by
    unfold svN
    split
    · exact ⟨by show (s.l ++ [_]).length = _; rw [List.length_append]; rfl, by show (s.W ++ [_]).length ≤ _; rw [List.length_append]; exact Nat.le_refl _⟩
    · exact ⟨by show (s.l ++ [_]).length = _; rw [List.length_append]; rfl, Nat.le_succ _⟩
  intro h
  induction h with
  | zero => exact fun t s => kN _ _ _
  | succ h ih =>
    intro t s
    have key : ∀ (l : List (Tr.T h)) (s : SvS), (svL (svT h) l s).2.l.length = s.l.length + ((l.map (nds h)).flatten).length ∧ (svL (svT h) l s).2.W.length ≤ s.W.length + ((l.map (nds h)).flatten).length := fun l => by
      induction l with
      | nil => exact fun s => ⟨rfl, Nat.le_refl _⟩
      | cons x r ih2 =>
        intro s
        have h1 := ih x s
        have h2 := ih2 (svT h x s).2
        rw [List.map_cons, List.flatten_cons, List.length_append]
        exact ⟨by show (svL (svT h) r (svT h x s).2).2.l.length = _; omega, by show (svL (svT h) r (svT h x s).2).2.W.length ≤ _; omega⟩
    have h1 := key t.2 s
    have h2 := kN t.1 (Page.page 4 (nodeB (kidE h (svL (svT h) t.2 s).1))) (svL (svT h) t.2 s).2
    have e : (nds (h + 1) t).length = ((t.2.map (nds h)).flatten).length + 1 := rfl
    rw [e]
    exact ⟨by show (svN t.1 _ _).2.l.length = _; omega, by show (svN t.1 _ _).2.W.length ≤ _; omega⟩
theorem svL_lens {h : Nat} : ∀ (l : List (Tr.T h)) (s : SvS), (svL (svT h) l s).2.l.length = s.l.length + ((l.map (nds h)).flatten).length ∧ (svL (svT h) l s).2.W.length ≤ s.W.length + ((l.map (nds h)).flatten).length
  | [], s => ⟨rfl, Nat.le_refl _⟩
  | x :: r, s => by
    have h1 := svT_len h x s
    have h2 := svL_lens r (svT h x s).2
    rw [List.map_cons, List.flatten_cons, List.length_append]
    exact ⟨by show (svL (svT h) r (svT h x s).2).2.l.length = _; omega, by show (svL (svT h) r (svT h x s).2).2.W.length ≤ _; omega⟩
theorem len_step {h : Nat} {ks : List (Tr.T h)} {i : Nat} {k : Tr.T h} (hk : ks[i]? = some k) : (((ks.take i).map (nds h)).flatten).length + (nds h k).length ≤ ((ks.map (nds h)).flatten).length := by
  have e : ∀ l : List (Tr.T h), ((l.map (nds h)).flatten).length = (l.map fun x => (nds h x).length).sum := fun l => by rw [List.length_flatten, List.map_map]; rfl
  rw [e, e]
  exact take_le (fun x => (nds h x).length) ks i hk
theorem save_node {h : Nat} (dg : Nat) (lf : Bool) (KA VA CA : Option Addr) (Km Kc Vn Vc Cc : Nat) (Ks : List KeyD) (Vs : List Int) (Cs : List Nat) (da : Int) (ks : List (Tr.T h)) (X : List Int) (sp g pa n : Nat) (sv : Value) (S : List SecD) (s : SvS) (q0 : SvQ) (w : World)
    (hok : NodeD.Ok (⟨dg, lf, ⟨KA, Km, Kc⟩, Ks, ⟨VA, Vn, Vc⟩, Vs, ⟨CA, Cs.length, Cc⟩, Cs, da⟩ : NodeD)) (hCs : Cs = (ks.map (nd h)).map NodeD.g) (hnd : (dg :: ((ks.map (nds h)).flatten).map NodeD.g).Nodup) (hn : n ≤ 94) (hfr : s.k + ((ks.map (fr h)).sum + frN (⟨dg, lf, ⟨KA, Km, Kc⟩, Ks, ⟨VA, Vn, Vc⟩, Vs, ⟨CA, Cs.length, Cc⟩, Cs, da⟩ : NodeD)) ≤ n) (hl : s.l.length + (((ks.map (nds h)).flatten).length + 1) ≤ 10000) (hW : q0.W.length + (((ks.map (nds h)).flatten).length + 1) ≤ 90000) (hSl : S.length = 100) (hq : SvOk n S s q0)
    (IH : ∀ k ∈ ks, SaveC h k) (hX : SecOk X) (hput : da = 0 → ∀ w, Rd1 w (blk dg [.bool lf, .slice KA Km Kc, .slice VA Vn Vc, .slice CA Cs.length Cc, .int .u32 da] 109) → Rd1 w (slD (⟨dg, lf, ⟨KA, Km, Kc⟩, Ks, ⟨VA, Vn, Vc⟩, Vs, ⟨CA, Cs.length, Cc⟩, Cs, da⟩ : NodeD)) → Rd1 w (hdL (svL (svT h) ks s).1) → Calls Tryz.prog 70 [.pointer (some ⟨dg, 0, none⟩)].toArray w (PutX X w))
    (hsl : Rd1 w (allF ((⟨dg, lf, ⟨KA, Km, Kc⟩, Ks, ⟨VA, Vn, Vc⟩, Vs, ⟨CA, Cs.length, Cc⟩, Cs, da⟩ : NodeD) :: (ks.map (nds h)).flatten) slD)) (hdis : ∀ b, (packF (svF sp g pa n sv S s q0 ++ [hdX (⟨dg, lf, ⟨KA, Km, Kc⟩, Ks, ⟨VA, Vn, Vc⟩, Vs, ⟨CA, Cs.length, Cc⟩, Cs, da⟩ : NodeD) ks])).S b → ¬ (allF ((⟨dg, lf, ⟨KA, Km, Kc⟩, Ks, ⟨VA, Vn, Vc⟩, Vs, ⟨CA, Cs.length, Cc⟩, Cs, da⟩ : NodeD) :: (ks.map (nds h)).flatten) slD).S b) (hp : Rd1 w (packF (svF sp g pa n sv S s q0 ++ [hdX (⟨dg, lf, ⟨KA, Km, Kc⟩, Ks, ⟨VA, Vn, Vc⟩, Vs, ⟨CA, Cs.length, Cc⟩, Cs, da⟩ : NodeD) ks]))) :
    Calls Tryz.prog 42 [.pointer (some ⟨sp, 0, none⟩), .pointer (some ⟨dg, 0, none⟩)].toArray w (RetM (packF (svF sp g pa n sv S s q0 ++ [hdX (⟨dg, lf, ⟨KA, Km, Kc⟩, Ks, ⟨VA, Vn, Vc⟩, Vs, ⟨CA, Cs.length, Cc⟩, Cs, da⟩ : NodeD) ks])) (SvOk n S (svN (⟨dg, lf, ⟨KA, Km, Kc⟩, Ks, ⟨VA, Vn, Vc⟩, Vs, ⟨CA, Cs.length, Cc⟩, Cs, da⟩ : NodeD) X (svL (svT h) ks s).2).2) (fun _ => .int .i64 0) (fun q' => packF (svF sp g pa n sv S (svN (⟨dg, lf, ⟨KA, Km, Kc⟩, Ks, ⟨VA, Vn, Vc⟩, Vs, ⟨CA, Cs.length, Cc⟩, Cs, da⟩ : NodeD) X (svL (svT h) ks s).2).2 q' ++ [hdX (svN (⟨dg, lf, ⟨KA, Km, Kc⟩, Ks, ⟨VA, Vn, Vc⟩, Vs, ⟨CA, Cs.length, Cc⟩, Cs, da⟩ : NodeD) X (svL (svT h) ks s).2).1 (svL (svT h) ks s).1])) w) := by
  obtain ⟨r, hr⟩ : ∃ r, r = svN (⟨dg, lf, ⟨KA, Km, Kc⟩, Ks, ⟨VA, Vn, Vc⟩, Vs, ⟨CA, Cs.length, Cc⟩, Cs, da⟩ : NodeD) X (svL (svT h) ks s).2 := ⟨_, rfl⟩
  rw [← hr]
  have hc1 : Cs.length ≤ Cc := hok.C.c
  have hc2 : Cc ≤ maxLen := hok.C.mx
  unfold maxLen at hc2
  have hCl : Cs.length = ks.length := by rw [hCs, List.length_map, List.length_map]
  have hdD : Der [allF ((⟨dg, lf, ⟨KA, Km, Kc⟩, Ks, ⟨VA, Vn, Vc⟩, Vs, ⟨CA, Cs.length, Cc⟩, Cs, da⟩ : NodeD) :: (ks.map (nds h)).flatten) slD] (slD (⟨dg, lf, ⟨KA, Km, Kc⟩, Ks, ⟨VA, Vn, Vc⟩, Vs, ⟨CA, Cs.length, Cc⟩, Cs, da⟩ : NodeD)) := Der.elem (L := (⟨dg, lf, ⟨KA, Km, Kc⟩, Ks, ⟨VA, Vn, Vc⟩, Vs, ⟨CA, Cs.length, Cc⟩, Cs, da⟩ : NodeD) :: (ks.map (nds h)).flatten) (F := slD) (x := (⟨dg, lf, ⟨KA, Km, Kc⟩, Ks, ⟨VA, Vn, Vc⟩, Vs, ⟨CA, Cs.length, Cc⟩, Cs, da⟩ : NodeD)) (Der.mem (.head _)) (.head _)
  have hdC : Der [allF ((⟨dg, lf, ⟨KA, Km, Kc⟩, Ks, ⟨VA, Vn, Vc⟩, Vs, ⟨CA, Cs.length, Cc⟩, Cs, da⟩ : NodeD) :: (ks.map (nds h)).flatten) slD] (sl CA 1 PE Cs) := (Der.elem (L := slL (⟨dg, lf, ⟨KA, Km, Kc⟩, Ks, ⟨VA, Vn, Vc⟩, Vs, ⟨CA, Cs.length, Cc⟩, Cs, da⟩ : NodeD)) (F := id) (x := sl CA 1 PE Cs) (show Der [slD (⟨dg, lf, ⟨KA, Km, Kc⟩, Ks, ⟨VA, Vn, Vc⟩, Vs, ⟨CA, Cs.length, Cc⟩, Cs, da⟩ : NodeD)] (allF (slL (⟨dg, lf, ⟨KA, Km, Kc⟩, Ks, ⟨VA, Vn, Vc⟩, Vs, ⟨CA, Cs.length, Cc⟩, Cs, da⟩ : NodeD)) id) from Der.mem (.head _)) (.tail _ (.tail _ (.head _)))).trans fun ψ hψ => by
    obtain rfl := List.mem_singleton.1 hψ
    exact hdD
  have hC : Rd1 w (sl CA 1 PE Cs) := hdC.rd fun ψ hψ => by obtain rfl := List.mem_singleton.1 hψ; exact hsl
  have hW0 : s.W.length = q0.W.length := by
    have := congrArg List.length hq.w
    rw [ws, List.length_map, List.length_map] at this
    exact this.symm
  refine g_enter0 T (finE (packF (svF sp g pa n sv S s q0 ++ [hdX (⟨dg, lf, ⟨KA, Km, Kc⟩, Ks, ⟨VA, Vn, Vc⟩, Vs, ⟨CA, Cs.length, Cc⟩, Cs, da⟩ : NodeD) ks])) w) (svF sp g pa n sv S s q0 ++ [hdX (⟨dg, lf, ⟨KA, Km, Kc⟩, Ks, ⟨VA, Vn, Vc⟩, Vs, ⟨CA, Cs.length, Cc⟩, Cs, da⟩ : NodeD) ks]) [allF ((⟨dg, lf, ⟨KA, Km, Kc⟩, Ks, ⟨VA, Vn, Vc⟩, Vs, ⟨CA, Cs.length, Cc⟩, Cs, da⟩ : NodeD) :: (ks.map (nds h)).flatten) slD, sl CA 1 PE Cs] Tryz.func42 rfl Tryz.ntmps42 rfl (Kn.startP hp (fun b hb => (finE_mem hp.2 b).2 hb) (fun ψ hψ => by
    rcases List.mem_cons.1 hψ with rfl | hψ
    · exact ⟨hsl, hdis⟩
    · obtain rfl := List.mem_singleton.1 hψ
      refine ⟨hC, fun b hb hb2 => hdis b hb ?_⟩
      obtain ⟨ψ, h1, h2⟩ := hdC.S b hb2
      obtain rfl := List.mem_singleton.1 h1
      exact h2)) ?_
  dsimp only [svF, List.cons_append, List.nil_append]
  refine gk_turn (packF [blk dg [.bool lf, .slice KA Km Kc, .slice VA Vn Vc, .slice CA Cs.length Cc, .int .u32 da] 109, hdL ([] : List (Tr.T h)), hdL ks]) (φ := hdX (⟨dg, lf, ⟨KA, Km, Kc⟩, Ks, ⟨VA, Vn, Vc⟩, Vs, ⟨CA, Cs.length, Cc⟩, Cs, da⟩ : NodeD) ks) (by repeat (first | with_reducible exact Sel.here | with_reducible apply Sel.there)) (hdX_part (h := h) (d := (⟨dg, lf, ⟨KA, Km, Kc⟩, Ks, ⟨VA, Vn, Vc⟩, Vs, ⟨CA, Cs.length, Cc⟩, Cs, da⟩ : NodeD)) (ks := ks) hnd).1 (hdX_part (h := h) (d := (⟨dg, lf, ⟨KA, Km, Kc⟩, Ks, ⟨VA, Vn, Vc⟩, Vs, ⟨CA, Cs.length, Cc⟩, Cs, da⟩ : NodeD)) (ks := ks) hnd).2 ?_
  refine gk_unpack (l := [blk dg [.bool lf, .slice KA Km Kc, .slice VA Vn Vc, .slice CA Cs.length Cc, .int .u32 da] 109, hdL ([] : List (Tr.T h)), hdL ks]) (by repeat (first | with_reducible exact Sel.here | with_reducible apply Sel.there)) ?_
  dsimp only [List.cons_append, List.nil_append]
  (repeat' (first | (refine gG ?_; try intro _) | ((first | refine g_split rfl rfl tE (fun _ => ?_) (fun _ => ?_) | refine gk_cond rfl rfl tE (fun _ => ?_) (fun _ => ?_)) <;> (try first | (exfalso; omega; done) | (rename_i hx; exact absurd rfl hx) | (rename_i hx; cases hx; done)))))
  refine gk_loop_sel (fun (q : Nat × SvQ) => match q with | (i, q) => i ≤ ks.length ∧ SvOk n S (svL (svT h) (ks.take i) s).2 q) (fun (q : Nat × SvQ) => match q with | (i, q) => [(0, .pointer (some ⟨sp, 0, none⟩)), (1, .pointer (some ⟨dg, 0, none⟩)), (15, .slice CA Cs.length Cc), (16, .int .i64 (Cs.length : Nat)), (17, .int .i64 i)]) (fun (q : Nat × SvQ) => match q with | (i, q) => [blk dg [.bool lf, .slice KA Km Kc, .slice VA Vn Vc, .slice CA Cs.length Cc, .int .u32 da] 109, hdL (svL (svT h) (ks.take i) s).1, hdL (ks.drop i), blk sp [.pointer (some ⟨g, 0, none⟩), .int .i64 ((4 : Nat) : Int), .pointer (some ⟨pa, 0, none⟩), .slice q.A (svL (svT h) (ks.take i) s).2.l.length q.c] 103, own 0 26 1 (.slice q.A (svL (svT h) (ks.take i) s).2.l.length q.c) (IE .u32) (svL (svT h) (ks.take i) s).2.l, alF pa n q.D (alK n (svL (svT h) (ks.take i) s).2.k), dkF g ⟨sv, q.lv, S, q.W⟩]) (fun (q : Nat × SvQ) => match q with | (i, q) => [allF ((⟨dg, lf, ⟨KA, Km, Kc⟩, Ks, ⟨VA, Vn, Vc⟩, Vs, ⟨CA, Cs.length, Cc⟩, Cs, da⟩ : NodeD) :: (ks.map (nds h)).flatten) slD, sl CA 1 PE Cs]) (fun (q : Nat × SvQ) => match q with | (i, q) => ks.length - i) (0, q0) rfl ⟨Nat.zero_le _, hq⟩ (by repeat (first | exact trivial | refine ⟨rfl, ?_⟩)) sA sS ?_
  rintro ⟨i, q⟩ hI
  replace hI : i ≤ ks.length ∧ SvOk n S (svL (svT h) (ks.take i) s).2 q := hI
  change GK _ _ [(0, .pointer (some ⟨sp, 0, none⟩)), (1, .pointer (some ⟨dg, 0, none⟩)), (15, .slice CA Cs.length Cc), (16, .int .i64 (Cs.length : Nat)), (17, .int .i64 i)] [blk dg [.bool lf, .slice KA Km Kc, .slice VA Vn Vc, .slice CA Cs.length Cc, .int .u32 da] 109, hdL (svL (svT h) (ks.take i) s).1, hdL (ks.drop i), blk sp [.pointer (some ⟨g, 0, none⟩), .int .i64 ((4 : Nat) : Int), .pointer (some ⟨pa, 0, none⟩), .slice q.A (svL (svT h) (ks.take i) s).2.l.length q.c] 103, own 0 26 1 (.slice q.A (svL (svT h) (ks.take i) s).2.l.length q.c) (IE .u32) (svL (svT h) (ks.take i) s).2.l, alF pa n q.D (alK n (svL (svT h) (ks.take i) s).2.k), dkF g ⟨sv, q.lv, S, q.W⟩] [allF ((⟨dg, lf, ⟨KA, Km, Kc⟩, Ks, ⟨VA, Vn, Vc⟩, Vs, ⟨CA, Cs.length, Cc⟩, Cs, da⟩ : NodeD) :: (ks.map (nds h)).flatten) slD, sl CA 1 PE Cs]
  obtain ⟨hi, hqi⟩ := hI
  by_cases hlt : i < ks.length
  · --<kid
    obtain ⟨k, hki⟩ : ∃ k, ks[i]? = some k := ⟨ks[i], List.getElem?_eq_getElem hlt⟩
    have hkm := List.mem_of_getElem? hki
    have hy0 : Cs[i]? = some (nd h k).g := by rw [hCs, List.getElem?_map, List.getElem?_map, hki]; rfl
    obtain ⟨e1, e2⟩ := svL_step hki s
    have b1 := (svL_k (svT h) (fr h) (pl h) (svT_k h) (ks.take i) s).1
    have b2 := take_le (fr h) ks i hki
    have b3 := svL_lens (ks.take i) s
    have b4 := len_step hki
    have b5 : q.W.length = (svL (svT h) (ks.take i) s).2.W.length := by
      have := congrArg List.length hqi.w
      rw [ws, List.length_map, List.length_map] at this
      exact this
    have hdk : Der [allF ((⟨dg, lf, ⟨KA, Km, Kc⟩, Ks, ⟨VA, Vn, Vc⟩, Vs, ⟨CA, Cs.length, Cc⟩, Cs, da⟩ : NodeD) :: (ks.map (nds h)).flatten) slD] (slF h k) := Der.all fun x hx => Der.elem (L := (⟨dg, lf, ⟨KA, Km, Kc⟩, Ks, ⟨VA, Vn, Vc⟩, Vs, ⟨CA, Cs.length, Cc⟩, Cs, da⟩ : NodeD) :: (ks.map (nds h)).flatten) (F := slD) (Der.mem (.head _)) (.tail _ (List.mem_flatten.2 ⟨_, List.mem_map.2 ⟨k, hkm, rfl⟩, hx⟩))
    have hIH := fun w h1 h2 h3 => IH k hkm sp g pa n sv S (svL (svT h) (ks.take i) s).2 q w hn (by omega) (by omega) (by omega) hSl hqi h1 h2 h3
    rw [← e2] at hIH
    have hpart : (∀ w : World, (hdL (ks.drop i)).p w → (packF [hdF h k, hdL (ks.drop (i + 1))]).p w) ∧ ∀ b, (packF [hdF h k, hdL (ks.drop (i + 1))]).S b → (hdL (ks.drop i)).S b := by
      rw [drop_step hki, hdL_cons]
      refine hd_part ?_
      rw [← List.map_append]
      have e : nds h k ++ ((ks.drop (i + 1)).map (nds h)).flatten = ((ks.drop i).map (nds h)).flatten := by rw [drop_step hki]; rfl
      rw [e, flat_g]
      have h2 := (List.nodup_cons.1 hnd).2
      rw [flat_g] at h2
      have e3 : (ks.map (gs h)).flatten = ((ks.map (gs h)).take i).flatten ++ ((ks.map (gs h)).drop i).flatten := by rw [← List.flatten_append, List.take_append_drop]
      rw [e3] at h2
      rw [List.map_drop]
      exact (List.nodup_append.1 h2).2.1
    have hjoin : (∀ w : World, (packF [hdL (svL (svT h) (ks.take i) s).1, hdF h (svT h k (svL (svT h) (ks.take i) s).2).1]).p w → (hdL (svL (svT h) (ks.take (i + 1)) s).1).p w) ∧ ∀ b, (hdL (svL (svT h) (ks.take (i + 1)) s).1).S b → (packF [hdL (svL (svT h) (ks.take i) s).1, hdF h (svT h k (svL (svT h) (ks.take i) s).2).1]).S b := by
      rw [e1, hdL_snoc]
      exact hd_join
    refine gk_elem (A := CA) (enc := PE) (L := Cs) i mE (by omega) (by decide) (fun b0 o0 y eA hy => ?_)
    subst eA
    obtain rfl : (nd h k).g = y := Option.some.inj (hy0.symm.trans hy)
    have hcall := fun (w : World) (r1 : Rd1 w (allF ((⟨dg, lf, ⟨KA, Km, Kc⟩, Ks, ⟨VA, Vn, Vc⟩, Vs, ⟨some ⟨b0, o0, none⟩, Cs.length, Cc⟩, Cs, da⟩ : NodeD) :: (ks.map (nds h)).flatten) slD)) (r2 : ∀ b, (packF [blk sp [.pointer (some ⟨g, 0, none⟩), .int .i64 ((4 : Nat) : Int), .pointer (some ⟨pa, 0, none⟩), .slice q.A (svL (svT h) (ks.take i) s).2.l.length q.c] 103, own 0 26 1 (.slice q.A (svL (svT h) (ks.take i) s).2.l.length q.c) (IE .u32) (svL (svT h) (ks.take i) s).2.l, alF pa n q.D (alK n (svL (svT h) (ks.take i) s).2.k), dkF g ⟨sv, q.lv, S, q.W⟩, hdF h k]).S b → ¬ (allF ((⟨dg, lf, ⟨KA, Km, Kc⟩, Ks, ⟨VA, Vn, Vc⟩, Vs, ⟨some ⟨b0, o0, none⟩, Cs.length, Cc⟩, Cs, da⟩ : NodeD) :: (ks.map (nds h)).flatten) slD).S b) (r3 : Rd1 w (packF [blk sp [.pointer (some ⟨g, 0, none⟩), .int .i64 ((4 : Nat) : Int), .pointer (some ⟨pa, 0, none⟩), .slice q.A (svL (svT h) (ks.take i) s).2.l.length q.c] 103, own 0 26 1 (.slice q.A (svL (svT h) (ks.take i) s).2.l.length q.c) (IE .u32) (svL (svT h) (ks.take i) s).2.l, alF pa n q.D (alK n (svL (svT h) (ks.take i) s).2.k), dkF g ⟨sv, q.lv, S, q.W⟩, hdF h k])) => hIH w (hdk.rd fun ψ hψ => by obtain rfl := List.mem_singleton.1 hψ; exact r1) (fun b hb hb2 => by
      obtain ⟨ψ, h1, h2⟩ := hdk.S b hb2
      obtain rfl := List.mem_singleton.1 h1
      exact r2 b hb h2) r3
    (repeat' (first | (refine gG ?_; try intro _) | ((first | refine g_split rfl rfl tE (fun _ => ?_) (fun _ => ?_) | refine gk_cond rfl rfl tE (fun _ => ?_) (fun _ => ?_)) <;> (try first | (exfalso; omega; done) | (rename_i hx; exact absurd rfl hx) | (rename_i hx; cases hx; done)))))
    refine g_turn (packF [hdF h k, hdL (ks.drop (i + 1))]) (φ := hdL (ks.drop i)) (by repeat (first | with_reducible exact Sel.here | with_reducible apply Sel.there)) hpart.1 hpart.2 ?_
    refine g_unpack (l := [hdF h k, hdL (ks.drop (i + 1))]) (by repeat (first | with_reducible exact Sel.here | with_reducible apply Sel.there)) ?_
    dsimp only [List.cons_append, List.nil_append]
    refine g_pack [blk sp [.pointer (some ⟨g, 0, none⟩), .int .i64 ((4 : Nat) : Int), .pointer (some ⟨pa, 0, none⟩), .slice q.A (svL (svT h) (ks.take i) s).2.l.length q.c] 103, own 0 26 1 (.slice q.A (svL (svT h) (ks.take i) s).2.l.length q.c) (IE .u32) (svL (svT h) (ks.take i) s).2.l, alF pa n q.D (alK n (svL (svT h) (ks.take i) s).2.k), dkF g ⟨sv, q.lv, S, q.W⟩, hdF h k] [blk dg [.bool lf, .slice KA Km Kc, .slice VA Vn Vc, .slice (some ⟨b0, o0, none⟩) Cs.length Cc, .int .u32 da] 109, hdL (svL (svT h) (ks.take i) s).1, hdL (ks.drop (i + 1))] sA ?_
    refine g_mv rfl (mv_call_mod (φ := packF [blk sp [.pointer (some ⟨g, 0, none⟩), .int .i64 ((4 : Nat) : Int), .pointer (some ⟨pa, 0, none⟩), .slice q.A (svL (svT h) (ks.take i) s).2.l.length q.c] 103, own 0 26 1 (.slice q.A (svL (svT h) (ks.take i) s).2.l.length q.c) (IE .u32) (svL (svT h) (ks.take i) s).2.l, alF pa n q.D (alK n (svL (svT h) (ks.take i) s).2.k), dkF g ⟨sv, q.lv, S, q.W⟩, hdF h k]) (ψ := fun q' : SvQ => packF (svF sp g pa n sv S (svL (svT h) (ks.take (i + 1)) s).2 q' ++ [hdF h (svT h k (svL (svT h) (ks.take i) s).2).1])) (fun w hk => by exact hcall w (hk.rR (φ := allF ((⟨dg, lf, ⟨KA, Km, Kc⟩, Ks, ⟨VA, Vn, Vc⟩, Vs, ⟨some ⟨b0, o0, none⟩, Cs.length, Cc⟩, Cs, da⟩ : NodeD) :: (ks.map (nds h)).flatten) slD) mE) (fun b hb => hk.disR (packF [blk sp [.pointer (some ⟨g, 0, none⟩), .int .i64 ((4 : Nat) : Int), .pointer (some ⟨pa, 0, none⟩), .slice q.A (svL (svT h) (ks.take i) s).2.l.length q.c] 103, own 0 26 1 (.slice q.A (svL (svT h) (ks.take i) s).2.l.length q.c) (IE .u32) (svL (svT h) (ks.take i) s).2.l, alF pa n q.D (alK n (svL (svT h) (ks.take i) s).2.k), dkF g ⟨sv, q.lv, S, q.W⟩, hdF h k]) mE (allF ((⟨dg, lf, ⟨KA, Km, Kc⟩, Ks, ⟨VA, Vn, Vc⟩, Vs, ⟨some ⟨b0, o0, none⟩, Cs.length, Cc⟩, Cs, da⟩ : NodeD) :: (ks.map (nds h)).flatten) slD) mE b hb) (hk.rO (φ := packF [blk sp [.pointer (some ⟨g, 0, none⟩), .int .i64 ((4 : Nat) : Int), .pointer (some ⟨pa, 0, none⟩), .slice q.A (svL (svT h) (ks.take i) s).2.l.length q.c] 103, own 0 26 1 (.slice q.A (svL (svT h) (ks.take i) s).2.l.length q.c) (IE .u32) (svL (svT h) (ks.take i) s).2.l, alF pa n q.D (alK n (svL (svT h) (ks.take i) s).2.k), dkF g ⟨sv, q.lv, S, q.W⟩, hdF h k]) mE)) rfl rfl rfl rfl rfl (by kernel_rfl) (by intro _; first | ((repeat (first | with_reducible exact Upd.here _ | with_reducible apply Upd.there)); done) | ((repeat (first | exact Upd.here _ | apply Upd.there)); done) | fail) (fun q' hq' => ?_))
    refine g_unpack (l := svF sp g pa n sv S (svL (svT h) (ks.take (i + 1)) s).2 q' ++ [hdF h (svT h k (svL (svT h) (ks.take i) s).2).1]) (by repeat (first | with_reducible exact Sel.here | with_reducible apply Sel.there)) ?_
    dsimp only [svF, List.cons_append, List.nil_append]
    refine g_pack [hdL (svL (svT h) (ks.take i) s).1, hdF h (svT h k (svL (svT h) (ks.take i) s).2).1] (svF sp g pa n sv S (svL (svT h) (ks.take (i + 1)) s).2 q' ++ [blk dg [.bool lf, .slice KA Km Kc, .slice VA Vn Vc, .slice (some ⟨b0, o0, none⟩) Cs.length Cc, .int .u32 da] 109, hdL (ks.drop (i + 1))]) sA ?_
    refine g_turn (hdL (svL (svT h) (ks.take (i + 1)) s).1) (φ := packF [hdL (svL (svT h) (ks.take i) s).1, hdF h (svT h k (svL (svT h) (ks.take i) s).2).1]) (by repeat (first | with_reducible exact Sel.here | with_reducible apply Sel.there)) hjoin.1 hjoin.2 ?_
    dsimp only [svF, List.cons_append, List.nil_append]
    (repeat' (first | (refine gG ?_; try intro _) | ((first | refine g_split rfl rfl tE (fun _ => ?_) (fun _ => ?_) | refine gk_cond rfl rfl tE (fun _ => ?_) (fun _ => ?_)) <;> (try first | (exfalso; omega; done) | (rename_i hx; exact absurd rfl hx) | (rename_i hx; cases hx; done)))))
    refine gk_again_sel rfl (i + 1, q') ⟨by omega, hq'⟩ (by dsimp only; omega) (by repeat (first | exact trivial | refine ⟨rfl, ?_⟩)) sA sS
    -->kid
  have hi' : i = ks.length := by omega
  subst hi'
  rw [List.take_length] at hqi
  rw [List.take_length, List.drop_length]
  have b1 := (svL_k (svT h) (fr h) (pl h) (svT_k h) ks s).1
  have b3 := svL_lens ks s
  have b5 : q.W.length = (svL (svT h) ks s).2.W.length := by
    have := congrArg List.length hqi.w
    rw [ws, List.length_map, List.length_map] at this
    exact this
  obtain ⟨s1, hs1⟩ : ∃ s1, s1 = (svL (svT h) ks s).2 := ⟨_, rfl⟩
  rw [← hs1] at hr hqi b1 b3 b5 ⊢
  by_cases ha : da = 0
  case pos =>
    --<fresh
    have hf1 : frN (⟨dg, lf, ⟨KA, Km, Kc⟩, Ks, ⟨VA, Vn, Vc⟩, Vs, ⟨CA, Cs.length, Cc⟩, Cs, da⟩ : NodeD) = 1 := by unfold frN; rw [if_pos ha]
    have hr' : r = ({ (⟨dg, lf, ⟨KA, Km, Kc⟩, Ks, ⟨VA, Vn, Vc⟩, Vs, ⟨CA, Cs.length, Cc⟩, Cs, da⟩ : NodeD) with a := (s1.k : Int) + 1 }, ⟨s1.k + 1, s1.l ++ [(s1.k : Int) + 1], s1.W ++ [(s1.k + 1, X)]⟩) := by rw [hr]; unfold svN; rw [if_pos ha]
    subst hr'
    (repeat' (first | (refine gG ?_; try intro _) | ((first | refine g_split rfl rfl tE (fun _ => ?_) (fun _ => ?_) | refine gk_cond rfl rfl tE (fun _ => ?_) (fun _ => ?_)) <;> (try first | (exfalso; omega; done) | (rename_i hx; exact absurd rfl hx) | (rename_i hx; cases hx; done)))))
    refine g_mv rfl ?_; refine mv_call_rt (fun w hk => hput ha w (hk.rO (φ := blk dg [.bool lf, .slice KA Km Kc, .slice VA Vn Vc, .slice CA Cs.length Cc, .int .u32 da] 109) mE) (hdD.rd fun ψ hψ => by obtain rfl := List.mem_singleton.1 hψ; exact hk.rR (φ := allF ((⟨dg, lf, ⟨KA, Km, Kc⟩, Ks, ⟨VA, Vn, Vc⟩, Vs, ⟨CA, Cs.length, Cc⟩, Cs, da⟩ : NodeD) :: (ks.map (nds h)).flatten) slD) mE) (hk.rO (φ := hdL (svL (svT h) ks s).1) mE)) rfl rfl rfl rfl rfl (by kernel_rfl) (fun _ => rfl) (fun u hu => ?_)
    obtain ⟨uA, un, uc⟩ := u
    obtain ⟨u1, u2, u3, u4⟩ := hu
    dsimp only [SlV.v] at u1 ⊢
    (repeat' (first | (refine gG ?_; try intro _) | ((first | refine g_split rfl rfl tE (fun _ => ?_) (fun _ => ?_) | refine gk_cond rfl rfl tE (fun _ => ?_) (fun _ => ?_)) <;> (try first | (exfalso; omega; done) | (rename_i hx; exact absurd rfl hx) | (rename_i hx; cases hx; done)))))
    refine g_mv rfl (mv_call_mod (φ := alF pa n q.D (alK n s1.k)) (ψ := fun r : AlD × AlS × Int × Int => alF pa n r.1 r.2.1) (fun w1 hk => by exact atake_any pa n q.D (alK n s1.k) w1 (by rw [alK_held]; omega) hqi.a (hk.rO (φ := alF pa n q.D (alK n s1.k)) mE)) rfl rfl rfl rfl rfl (by kernel_rfl) (by intro _; first | ((repeat (first | with_reducible exact Upd.here _ | with_reducible apply Upd.there)); done) | ((repeat (first | exact Upd.here _ | apply Upd.there)); done) | fail) (fun r hr => ?_))
    obtain ⟨D2, s2, y, e⟩ := r
    obtain ⟨hI2, hr2⟩ := hr
    dsimp only at hI2 hr2
    rw [take_alK (by omega)] at hr2
    injection hr2 with h1 h2
    injection h2 with h2 h3
    subst h1 h2 h3
    dsimp only
    refine g_share (φ := sl uA 1 (IE .u8) X) (by repeat (first | with_reducible exact Sel.here | with_reducible apply Sel.there)) ?_
    (repeat' (first | (refine gG ?_; try intro _) | ((first | refine g_split rfl rfl tE (fun _ => ?_) (fun _ => ?_) | refine gk_cond rfl rfl tE (fun _ => ?_) (fun _ => ?_)) <;> (try first | (exfalso; omega; done) | (rename_i hx; exact absurd rfl hx) | (rename_i hx; cases hx; done)))))
    refine g_say 56 (.int .u32 ((s1.k + 1 : Nat) : Int)) rfl (by congr 1) ?_
    refine g_mv rfl (mv_call_mod (φ := dkF g ⟨sv, q.lv, S, q.W⟩) (ψ := fun p : Value × SecD => dkF g ⟨sv, p.1, S, q.W ++ [(⟨s1.k + 1 + 4 + 1, p.2⟩ : WrD)]⟩) (fun w1 hk => by exact pwrite_any g 4 sv q.lv S q.W (s1.k + 1) uA un uc X w1 hqi.d (by omega) (by omega) (by omega) (by decide) (by omega) u1 hX (hk.rO (φ := dkF g ⟨sv, q.lv, S, q.W⟩) mE) (hk.rR (φ := sl uA 1 (IE .u8) X) mE) (fun b hb => hk.disR (dkF g ⟨sv, q.lv, S, q.W⟩) mE (sl uA 1 (IE .u8) X) mE b hb)) rfl rfl rfl rfl rfl (by kernel_rfl) (by intro _; first | ((repeat (first | with_reducible exact Upd.here _ | with_reducible apply Upd.there)); done) | ((repeat (first | exact Upd.here _ | apply Upd.there)); done) | fail) (fun p hp => ?_))
    obtain ⟨lv2, d2⟩ := p
    obtain ⟨hd2, hd3⟩ := hp
    dsimp only at hd2 hd3 ⊢
    (repeat (refine gG ?_; try intro _))
    refine gk_sel (f' := [(0, .pointer (some ⟨sp, 0, none⟩)), (1, .pointer (some ⟨dg, 0, none⟩))]) (O' := [own 0 26 1 (.slice q.A s1.l.length q.c) (IE .u32) s1.l, blk sp [.pointer (some ⟨g, 0, none⟩), .int .i64 ((4 : Nat) : Int), .pointer (some ⟨pa, 0, none⟩), .slice q.A s1.l.length q.c] 103, blk dg [.bool lf, .slice KA Km Kc, .slice VA Vn Vc, .slice CA Cs.length Cc, .int .u32 ((s1.k : Int) + 1)] 109, alF pa n D2 (alK n (s1.k + 1)), dkF g ⟨sv, lv2, S, q.W ++ [(⟨s1.k + 1 + 4 + 1, d2⟩ : WrD)]⟩, hdL (svL (svT h) ks s).1]) (R' := []) (by repeat (first | exact trivial | refine ⟨rfl, ?_⟩)) sA sS ?_
    refine gk_any [2] (Cut _ (fun _ : Option Addr × Nat => []) (fun z => [blk dg [.bool lf, .slice KA Km Kc, .slice VA Vn Vc, .slice CA Cs.length Cc, .int .u32 ((s1.k : Int) + 1)] 109, hdL (svL (svT h) ks s).1, blk sp [.pointer (some ⟨g, 0, none⟩), .int .i64 ((4 : Nat) : Int), .pointer (some ⟨pa, 0, none⟩), .slice z.1 (s1.l ++ [(s1.k : Int) + 1]).length z.2] 103, own 0 26 1 (.slice z.1 (s1.l ++ [(s1.k : Int) + 1]).length z.2) (IE .u32) (s1.l ++ [(s1.k : Int) + 1]), alF pa n D2 (alK n (s1.k + 1)), dkF g ⟨sv, lv2, S, q.W ++ [(⟨s1.k + 1 + 4 + 1, d2⟩ : WrD)]⟩]) (fun _ => [])) rfl rfl (by kernel_rfl) ?_ (cut_k fun z => ?_)
    · skip
      refine gb_take 0 rfl (by decide +kernel) rfl rfl (ys_ev (nw := true) hT rfl sI) sF ?_
      refine gb_take 1 rfl (by decide +kernel) rfl rfl (ys_ev (nw := true) hT rfl sI) sF ?_
      refine gb_take 2 rfl (by decide +kernel) rfl rfl (ys_ev (nw := true) hT rfl sI) sF ?_
      refine gb_take 3 rfl (by decide +kernel) rfl rfl (ys_ev (nw := true) hT rfl sI) sF ?_
      refine gb_take 5 rfl (by decide +kernel) rfl rfl (ys_ev (nw := true) hT rfl sI) sF ?_
      refine gb_take 6 rfl (by decide +kernel) rfl rfl (ys_ev (nw := true) hT rfl sI) sF ?_
      refine gb_take 7 rfl (by decide +kernel) rfl rfl (ys_ev (nw := true) hT rfl sI) sF ?_
      refine gb_take 8 rfl (by decide +kernel) rfl rfl (by first | exact ys_blk hT rfl rfl mE rfl rfl | exact ys_row hT rfl rfl mE rfl rfl | exact ys_row0 hT rfl rfl mE rfl rfl) sF ?_
      refine gb_all (by decide +kernel) ?_
      refine gball_not (by decide +kernel) ?_
      refine gball_not (by decide +kernel) ?_
      refine gball_not (by decide +kernel) ?_
      refine gball_not (by decide +kernel) ?_
      refine gball_yes rfl rfl ?_ ?_
      · refine mv_yd rfl (yd_load_blk hT rfl rfl mE rfl rfl) ?_
        refine ⟨sF, ?_⟩
        refine gb_only 9 (by decide +kernel) rfl rfl ?_
        (refine mv_buildSlice (len := 1) rfl hT rfl rfl rfl rfl rfl rfl rfl rfl ?_; intro g6)
        refine ⟨sF, ?_⟩
        refine gb_only 10 (by decide +kernel) rfl rfl ?_
        (refine mv_append (L := s1.l) rfl [(s1.k : Int) + 1] rfl rfl rfl rfl Ch.elt_U (by intro _; first | ((repeat (first | with_reducible exact Upd.here _ | with_reducible apply Upd.there)); done) | ((repeat (first | exact Upd.here _ | apply Upd.there)); done) | fail) (src_blk mE rfl) rfl Ch.oneU (by simp only [maxLen, List.length_cons, List.length_nil]; omega) (by simp only [List.length_cons, List.length_nil]; omega) (Nat.zero_le _) ?_; intro v2)
        refine ⟨sF, ?_⟩
        (refine gb_ownv v2 mE (fun A3 c3 hv3 _ _ _ => ?_); subst hv3)
        refine gb_take 11 rfl (by decide +kernel) rfl rfl (ys_ev (nw := true) hT rfl sI) sF ?_
        refine gb_take 12 rfl (by decide +kernel) rfl rfl (ys_ev (nw := true) hT rfl sI) sF ?_
        refine gb_only 13 (by decide +kernel) rfl rfl ?_
        first | (refine mv_box rfl rfl rfl rfl ?_; intro _) | (refine mv_alloc rfl hT rfl rfl ?_; intro _) | refine mv_store hT rfl rfl rfl rfl rfl rfl sO rfl ?_ | (refine mv_buildSlice rfl hT rfl rfl rfl rfl rfl rfl rfl rfl ?_; intro _)
        refine ⟨sF, ?_⟩
        refine gb_nil (by decide +kernel) ?_
        exact ⟨(A3, c3), (by repeat (first | exact trivial | refine ⟨rfl, ?_⟩)), sA, sS⟩
      refine gball_not (by decide +kernel) ?_
      refine gball_not (by decide +kernel) ?_
      refine gball_not (by decide +kernel) ?_
      refine gball_not (by decide +kernel) ?_
      refine gball_yes rfl rfl ?_ ?_
      · (refine mv_buildSlice (len := 1) rfl hT rfl rfl rfl rfl rfl rfl rfl rfl ?_; intro g6)
        refine ⟨sF, ?_⟩
        refine gb_only 4 (by decide +kernel) rfl rfl ?_
        refine mv_yd rfl (yd_load_blk hT rfl rfl mE rfl rfl) ?_
        refine ⟨sF, ?_⟩
        refine gb_only 10 (by decide +kernel) rfl rfl ?_
        (refine mv_append (L := s1.l) rfl [(s1.k : Int) + 1] rfl rfl rfl rfl Ch.elt_U (by intro _; first | ((repeat (first | with_reducible exact Upd.here _ | with_reducible apply Upd.there)); done) | ((repeat (first | exact Upd.here _ | apply Upd.there)); done) | fail) (src_blk mE rfl) rfl Ch.oneU (by simp only [maxLen, List.length_cons, List.length_nil]; omega) (by simp only [List.length_cons, List.length_nil]; omega) (Nat.zero_le _) ?_; intro v2)
        refine ⟨sF, ?_⟩
        (refine gb_ownv v2 mE (fun A3 c3 hv3 _ _ _ => ?_); subst hv3)
        refine gb_take 11 rfl (by decide +kernel) rfl rfl (ys_ev (nw := true) hT rfl sI) sF ?_
        refine gb_take 12 rfl (by decide +kernel) rfl rfl (ys_ev (nw := true) hT rfl sI) sF ?_
        refine gb_only 13 (by decide +kernel) rfl rfl ?_
        first | (refine mv_box rfl rfl rfl rfl ?_; intro _) | (refine mv_alloc rfl hT rfl rfl ?_; intro _) | refine mv_store hT rfl rfl rfl rfl rfl rfl sO rfl ?_ | (refine mv_buildSlice rfl hT rfl rfl rfl rfl rfl rfl rfl rfl ?_; intro _)
        refine ⟨sF, ?_⟩
        refine gb_nil (by decide +kernel) ?_
        exact ⟨(A3, c3), (by repeat (first | exact trivial | refine ⟨rfl, ?_⟩)), sA, sS⟩
      refine gball_not (by decide +kernel) ?_
      refine gball_not (by decide +kernel) ?_
      refine gball_not (by decide +kernel) ?_
      refine gball_not (by decide +kernel) ?_
      exact gball_end (by decide +kernel)
    obtain ⟨A3, c3⟩ := z
    dsimp only
    refine gk_pack [blk dg [.bool lf, .slice KA Km Kc, .slice VA Vn Vc, .slice CA Cs.length Cc, .int .u32 ((s1.k : Int) + 1)] 109, hdL (svL (svT h) ks s).1] (svF sp g pa n sv S ⟨s1.k + 1, s1.l ++ [(s1.k : Int) + 1], s1.W ++ [(s1.k + 1, X)]⟩ ⟨A3, c3, D2, lv2, q.W ++ [(⟨s1.k + 1 + 4 + 1, d2⟩ : WrD)]⟩) sA ?_
    refine gk_turn (hdX { (⟨dg, lf, ⟨KA, Km, Kc⟩, Ks, ⟨VA, Vn, Vc⟩, Vs, ⟨CA, Cs.length, Cc⟩, Cs, da⟩ : NodeD) with a := (s1.k : Int) + 1 } (svL (svT h) ks s).1) (φ := packF [blk dg [.bool lf, .slice KA Km Kc, .slice VA Vn Vc, .slice CA Cs.length Cc, .int .u32 ((s1.k : Int) + 1)] 109, hdL (svL (svT h) ks s).1]) (by repeat (first | with_reducible exact Sel.here | with_reducible apply Sel.there)) (hdX_join (d := { (⟨dg, lf, ⟨KA, Km, Kc⟩, Ks, ⟨VA, Vn, Vc⟩, Vs, ⟨CA, Cs.length, Cc⟩, Cs, da⟩ : NodeD) with a := (s1.k : Int) + 1 })).1 (hdX_join (d := { (⟨dg, lf, ⟨KA, Km, Kc⟩, Ks, ⟨VA, Vn, Vc⟩, Vs, ⟨CA, Cs.length, Cc⟩, Cs, da⟩ : NodeD) with a := (s1.k : Int) + 1 })).2 ?_
    (repeat (refine gG ?_; try intro _))
    refine gk_ret hT rfl rfl (.tmp rfl .nil) (fun w' hk => ?_)
    exact RetM.mkP (ll := fun q' : SvQ => svF sp g pa n sv S ⟨s1.k + 1, s1.l ++ [(s1.k : Int) + 1], s1.W ++ [(s1.k + 1, X)]⟩ q' ++ [hdX { (⟨dg, lf, ⟨KA, Km, Kc⟩, Ks, ⟨VA, Vn, Vc⟩, Vs, ⟨CA, Cs.length, Cc⟩, Cs, da⟩ : NodeD) with a := (s1.k : Int) + 1 } (svL (svT h) ks s).1]) ⟨A3, c3, D2, lv2, q.W ++ [(⟨s1.k + 1 + 4 + 1, d2⟩ : WrD)]⟩ ⟨hI2, ⟨hqi.d.s, fun x hx => by
      rcases List.mem_append.1 hx with hx | hx
      · exact hqi.d.w x hx
      · obtain rfl := List.mem_singleton.1 hx
        exact ⟨hd2, by dsimp only; omega⟩, hqi.d.n⟩, by
      show (q.W ++ [(⟨s1.k + 1 + 4 + 1, d2⟩ : WrD)]).map WrD.c = ws (s1.W ++ [(s1.k + 1, X)])
      rw [List.map_append, hqi.w, ws, ws, List.map_append, ← hd3]
      rfl⟩ rfl hk (fun b hb => (finE_mem hp.2 b).1 hb) sA
    -->fresh
  --<old
  have hr' : r = ((⟨dg, lf, ⟨KA, Km, Kc⟩, Ks, ⟨VA, Vn, Vc⟩, Vs, ⟨CA, Cs.length, Cc⟩, Cs, da⟩ : NodeD), ⟨s1.k, s1.l ++ [da], s1.W⟩) := by rw [hr]; unfold svN; rw [if_neg ha]
  subst hr'
  (repeat' (first | (refine gG ?_; try intro _) | ((first | refine g_split rfl rfl tE (fun _ => ?_) (fun _ => ?_) | refine gk_cond rfl rfl tE (fun _ => ?_) (fun _ => ?_)) <;> (try first | (exfalso; omega; done) | (rename_i hx; exact absurd rfl hx) | (rename_i hx; cases hx; done)))))
  refine gk_sel (f' := [(0, .pointer (some ⟨sp, 0, none⟩)), (1, .pointer (some ⟨dg, 0, none⟩))]) (O' := [own 0 26 1 (.slice q.A s1.l.length q.c) (IE .u32) s1.l, blk sp [.pointer (some ⟨g, 0, none⟩), .int .i64 ((4 : Nat) : Int), .pointer (some ⟨pa, 0, none⟩), .slice q.A s1.l.length q.c] 103, blk dg [.bool lf, .slice KA Km Kc, .slice VA Vn Vc, .slice CA Cs.length Cc, .int .u32 da] 109, alF pa n q.D (alK n s1.k), dkF g ⟨sv, q.lv, S, q.W⟩, hdL (svL (svT h) ks s).1]) (R' := []) (by repeat (first | exact trivial | refine ⟨rfl, ?_⟩)) sA sS ?_
  refine gk_any [2] (Cut _ (fun _ : Option Addr × Nat => []) (fun z => [blk dg [.bool lf, .slice KA Km Kc, .slice VA Vn Vc, .slice CA Cs.length Cc, .int .u32 da] 109, hdL (svL (svT h) ks s).1, blk sp [.pointer (some ⟨g, 0, none⟩), .int .i64 ((4 : Nat) : Int), .pointer (some ⟨pa, 0, none⟩), .slice z.1 (s1.l ++ [da]).length z.2] 103, own 0 26 1 (.slice z.1 (s1.l ++ [da]).length z.2) (IE .u32) (s1.l ++ [da]), alF pa n q.D (alK n s1.k), dkF g ⟨sv, q.lv, S, q.W⟩]) (fun _ => [])) rfl rfl (by kernel_rfl) ?_ (cut_k fun z => ?_)
  · skip
    refine gb_take 0 rfl (by decide +kernel) rfl rfl (ys_ev (nw := true) hT rfl sI) sF ?_
    refine gb_take 1 rfl (by decide +kernel) rfl rfl (ys_ev (nw := true) hT rfl sI) sF ?_
    refine gb_take 2 rfl (by decide +kernel) rfl rfl (ys_ev (nw := true) hT rfl sI) sF ?_
    refine gb_take 3 rfl (by decide +kernel) rfl rfl (ys_ev (nw := true) hT rfl sI) sF ?_
    refine gb_take 5 rfl (by decide +kernel) rfl rfl (ys_ev (nw := true) hT rfl sI) sF ?_
    refine gb_take 6 rfl (by decide +kernel) rfl rfl (ys_ev (nw := true) hT rfl sI) sF ?_
    refine gb_take 7 rfl (by decide +kernel) rfl rfl (ys_ev (nw := true) hT rfl sI) sF ?_
    refine gb_take 8 rfl (by decide +kernel) rfl rfl (by first | exact ys_blk hT rfl rfl mE rfl rfl | exact ys_row hT rfl rfl mE rfl rfl | exact ys_row0 hT rfl rfl mE rfl rfl) sF ?_
    refine gb_all (by decide +kernel) ?_
    refine gball_not (by decide +kernel) ?_
    refine gball_not (by decide +kernel) ?_
    refine gball_not (by decide +kernel) ?_
    refine gball_not (by decide +kernel) ?_
    refine gball_yes rfl rfl ?_ ?_
    · refine mv_yd rfl (yd_load_blk hT rfl rfl mE rfl rfl) ?_
      refine ⟨sF, ?_⟩
      refine gb_only 9 (by decide +kernel) rfl rfl ?_
      (refine mv_buildSlice (len := 1) rfl hT rfl rfl rfl rfl rfl rfl rfl rfl ?_; intro g6)
      refine ⟨sF, ?_⟩
      refine gb_only 10 (by decide +kernel) rfl rfl ?_
      (refine mv_append (L := s1.l) rfl [da] rfl rfl rfl rfl Ch.elt_U (by intro _; first | ((repeat (first | with_reducible exact Upd.here _ | with_reducible apply Upd.there)); done) | ((repeat (first | exact Upd.here _ | apply Upd.there)); done) | fail) (src_blk mE rfl) rfl Ch.oneU (by simp only [maxLen, List.length_cons, List.length_nil]; omega) (by simp only [List.length_cons, List.length_nil]; omega) (Nat.zero_le _) ?_; intro v2)
      refine ⟨sF, ?_⟩
      (refine gb_ownv v2 mE (fun A3 c3 hv3 _ _ _ => ?_); subst hv3)
      refine gb_take 11 rfl (by decide +kernel) rfl rfl (ys_ev (nw := true) hT rfl sI) sF ?_
      refine gb_take 12 rfl (by decide +kernel) rfl rfl (ys_ev (nw := true) hT rfl sI) sF ?_
      refine gb_only 13 (by decide +kernel) rfl rfl ?_
      first | (refine mv_box rfl rfl rfl rfl ?_; intro _) | (refine mv_alloc rfl hT rfl rfl ?_; intro _) | refine mv_store hT rfl rfl rfl rfl rfl rfl sO rfl ?_ | (refine mv_buildSlice rfl hT rfl rfl rfl rfl rfl rfl rfl rfl ?_; intro _)
      refine ⟨sF, ?_⟩
      refine gb_nil (by decide +kernel) ?_
      exact ⟨(A3, c3), (by repeat (first | exact trivial | refine ⟨rfl, ?_⟩)), sA, sS⟩
    refine gball_not (by decide +kernel) ?_
    refine gball_not (by decide +kernel) ?_
    refine gball_not (by decide +kernel) ?_
    refine gball_not (by decide +kernel) ?_
    refine gball_yes rfl rfl ?_ ?_
    · (refine mv_buildSlice (len := 1) rfl hT rfl rfl rfl rfl rfl rfl rfl rfl ?_; intro g6)
      refine ⟨sF, ?_⟩
      refine gb_only 4 (by decide +kernel) rfl rfl ?_
      refine mv_yd rfl (yd_load_blk hT rfl rfl mE rfl rfl) ?_
      refine ⟨sF, ?_⟩
      refine gb_only 10 (by decide +kernel) rfl rfl ?_
      (refine mv_append (L := s1.l) rfl [da] rfl rfl rfl rfl Ch.elt_U (by intro _; first | ((repeat (first | with_reducible exact Upd.here _ | with_reducible apply Upd.there)); done) | ((repeat (first | exact Upd.here _ | apply Upd.there)); done) | fail) (src_blk mE rfl) rfl Ch.oneU (by simp only [maxLen, List.length_cons, List.length_nil]; omega) (by simp only [List.length_cons, List.length_nil]; omega) (Nat.zero_le _) ?_; intro v2)
      refine ⟨sF, ?_⟩
      (refine gb_ownv v2 mE (fun A3 c3 hv3 _ _ _ => ?_); subst hv3)
      refine gb_take 11 rfl (by decide +kernel) rfl rfl (ys_ev (nw := true) hT rfl sI) sF ?_
      refine gb_take 12 rfl (by decide +kernel) rfl rfl (ys_ev (nw := true) hT rfl sI) sF ?_
      refine gb_only 13 (by decide +kernel) rfl rfl ?_
      first | (refine mv_box rfl rfl rfl rfl ?_; intro _) | (refine mv_alloc rfl hT rfl rfl ?_; intro _) | refine mv_store hT rfl rfl rfl rfl rfl rfl sO rfl ?_ | (refine mv_buildSlice rfl hT rfl rfl rfl rfl rfl rfl rfl rfl ?_; intro _)
      refine ⟨sF, ?_⟩
      refine gb_nil (by decide +kernel) ?_
      exact ⟨(A3, c3), (by repeat (first | exact trivial | refine ⟨rfl, ?_⟩)), sA, sS⟩
    refine gball_not (by decide +kernel) ?_
    refine gball_not (by decide +kernel) ?_
    refine gball_not (by decide +kernel) ?_
    refine gball_not (by decide +kernel) ?_
    exact gball_end (by decide +kernel)
  obtain ⟨A3, c3⟩ := z
  dsimp only
  refine gk_pack [blk dg [.bool lf, .slice KA Km Kc, .slice VA Vn Vc, .slice CA Cs.length Cc, .int .u32 da] 109, hdL (svL (svT h) ks s).1] (svF sp g pa n sv S ⟨s1.k, s1.l ++ [da], s1.W⟩ ⟨A3, c3, q.D, q.lv, q.W⟩) sA ?_
  refine gk_turn (hdX (⟨dg, lf, ⟨KA, Km, Kc⟩, Ks, ⟨VA, Vn, Vc⟩, Vs, ⟨CA, Cs.length, Cc⟩, Cs, da⟩ : NodeD) (svL (svT h) ks s).1) (φ := packF [blk dg [.bool lf, .slice KA Km Kc, .slice VA Vn Vc, .slice CA Cs.length Cc, .int .u32 da] 109, hdL (svL (svT h) ks s).1]) (by repeat (first | with_reducible exact Sel.here | with_reducible apply Sel.there)) (hdX_join (d := (⟨dg, lf, ⟨KA, Km, Kc⟩, Ks, ⟨VA, Vn, Vc⟩, Vs, ⟨CA, Cs.length, Cc⟩, Cs, da⟩ : NodeD))).1 (hdX_join (d := (⟨dg, lf, ⟨KA, Km, Kc⟩, Ks, ⟨VA, Vn, Vc⟩, Vs, ⟨CA, Cs.length, Cc⟩, Cs, da⟩ : NodeD))).2 ?_
  (repeat (refine gG ?_; try intro _))
  refine gk_ret hT rfl rfl (.tmp rfl .nil) (fun w' hk => ?_)
  exact RetM.mkP (ll := fun q' : SvQ => svF sp g pa n sv S ⟨s1.k, s1.l ++ [da], s1.W⟩ q' ++ [hdX (⟨dg, lf, ⟨KA, Km, Kc⟩, Ks, ⟨VA, Vn, Vc⟩, Vs, ⟨CA, Cs.length, Cc⟩, Cs, da⟩ : NodeD) (svL (svT h) ks s).1]) ⟨A3, c3, q.D, q.lv, q.W⟩ ⟨hqi.a, hqi.d, hqi.w⟩ rfl hk (fun b hb => (finE_mem hp.2 b).1 hb) sA
  -->old
end Go.Proofs.YtaghmffgoomebaaGreat.St
