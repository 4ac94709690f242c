/- Which blocks a saved tree has: the old ones, and new ones in order (plain; no program). What is known between two rounds of saving (plain; no program). StoreBack: what is known of a round besides (plain), and steps of the walk. -/
import Derived.Test.YtaghmffgoomebaaGreatSvB
set_option linter.unusedVariables false
set_option linter.unusedSimpArgs false
namespace Go.Proofs.YtaghmffgoomebaaGreat.St
open Go.RowKit Mem Gx Bytes Dk Al Rf Hp Nd Ch Tw
open Tr hiding T row
def oldA (h : Nat) (t : Tr.T h) : List Int := ((nds h t).filter fun d => decide (d.a ≠ 0)).map NodeD.a
theorem ziV {h : Nat} {t : Tr.T h} {y : Int} : y ∈ oldA h t ↔ ∃ d ∈ nds h t, d.a = y ∧ y ≠ 0 := by
 unfold oldA
 constructor
 ·intro hm
  obtain ⟨d, hd, e⟩ := List.mem_map.1 hm
  obtain ⟨h1, h2⟩ := List.mem_filter.1 hd
  exact ⟨d, h1, e, e ▸ of_decide_eq_true h2⟩
 ·rintro ⟨d, hd, e, h0⟩
  exact List.mem_map.2 ⟨d, List.mem_filter.2 ⟨hd, decide_eq_true (e ▸ h0)⟩, e⟩
theorem zjW {h : Nat} {t : Tr.T h} (hg : (gs h t).Nodup) (hi : ∀ d ∈ nds h t, ∀ d' ∈ nds h t, d.a = d'.a → d.a ≠ 0 → d.g = d'.g) : (oldA h t).Nodup := by
 rw [zeT] at hg
 unfold oldA
 have h1 : ((nds h t).filter fun d => decide (d.a ≠ 0)).Pairwise fun d d' => d.g ≠ d'.g := (List.pairwise_map.1 hg).sublist List.filter_sublist
 refine List.pairwise_map.2 (h1.imp_of_mem fun {d d'} hd hd' hne e => hne ?_)
 obtain ⟨m1, n1⟩ := List.mem_filter.1 hd
 exact hi d m1 d' (List.mem_filter.1 hd').1 e (of_decide_eq_true n1)
theorem zk8 (t : Tr.T 0) : oldA 0 t = if t.1.a = 0 then [] else [t.1.a] := by
 show (([nd 0 t].filter fun d => decide (d.a ≠ 0)).map NodeD.a) = _
 by_cases h0 : t.1.a = 0
 ·rw [if_pos h0, List.filter_cons_of_neg (by simp; exact h0)]
  rfl
 ·rw [if_neg h0, List.filter_cons_of_pos (by simp; exact h0)]
  rfl
theorem zk9 {h : Nat} (t : Tr.T (h + 1)) : oldA (h + 1) t = (if t.1.a = 0 then [] else [t.1.a]) ++ (t.2.map (oldA h)).flatten := by
 have e : (t.2.map (oldA h)).flatten = ((((t.2.map (nds h)).flatten).filter fun d => decide (d.a ≠ 0)).map NodeD.a) := by
  rw [List.filter_flatten, List.map_flatten, List.map_map, List.map_map]
  rfl
 rw [e]
 show ((nd (h + 1) t :: (t.2.map (nds h)).flatten).filter fun d => decide (d.a ≠ 0)).map NodeD.a = _
 by_cases h0 : t.1.a = 0
 ·rw [if_pos h0, List.filter_cons_of_neg (by simp; exact h0)]
  rfl
 ·rw [if_neg h0, List.filter_cons_of_pos (by simp; exact h0)]
  rfl
theorem perm4 {α : Type} (A B C D : List α) : ((A ++ B) ++ (C ++ D)).Perm ((A ++ C) ++ (B ++ D)) := by
 rw [List.append_assoc, List.append_assoc]
 refine List.Perm.append_left A ?_
 rw [← List.append_assoc, ← List.append_assoc]
 exact List.Perm.append_right D List.perm_append_comm
theorem zhN : ∀ (h : Nat) (t : Tr.T h) (s : SvS), (pl h (svT h t s).1).Perm (oldA h t ++ ioF s.k (fr h t)) := by
 have kN : ∀ (d : NodeD) (X : List Int) (s : SvS), [(svN d X s).1.a] = (if d.a = 0 then [] else [d.a]) ++ ioF s.k (frN d) := fun d X s => by
  unfold svN frN
  by_cases h0 : d.a = 0
  ·rw [if_pos h0, if_pos h0, if_pos h0]
   simp [ioF]
  ·rw [if_neg h0, if_neg h0, if_neg h0]
   simp [ioF]
 intro h
 induction h with
 | zero =>
   intro t s
   show ([(svN t.1 (Page.page 3 (nodeB t.2)) s).1.a]).Perm _
   rw [kN, zk8]
   exact List.Perm.refl _
 | succ h ih =>
   intro t s
   have key : ∀ (ks : List (Tr.T h)) (s : SvS), (((svL (svT h) ks s).1.map (pl h)).flatten).Perm ((ks.map (oldA h)).flatten ++ ioF s.k ((ks.map (fr h)).sum)) := fun ks => by
    induction ks with
    | nil => intro s; exact List.Perm.refl _
    | cons x r ihr =>
      intro s
      have h1 := ih x s
      have h2 := ihr (svT h x s).2
      rw [(zex h x s).1] at h2
      have h3 := (h1.append h2).trans (perm4 _ _ _ _)
      rw [zlI] at h3
      exact h3
   have h1 := key t.2 s
   have h2 := (zjL (svT h) (fr h) (pl h) (zex h) t.2 s).1
   show (((svL (svT h) t.2 s).1.map (pl h)).flatten ++ [(svN t.1 (Page.page 4 (nodeB (kidE h (svL (svT h) t.2 s).1))) (svL (svT h) t.2 s).2).1.a]).Perm (oldA (h + 1) t ++ ioF s.k ((t.2.map (fr h)).sum + frN t.1))
   rw [kN, zk9, h2, ← zlI]
   have h3 := (h1.append (List.Perm.refl ((if t.1.a = 0 then [] else [t.1.a]) ++ ioF (s.k + (t.2.map (fr h)).sum) (frN t.1)))).trans (perm4 _ _ _ _)
   exact h3.trans (List.Perm.append_right _ List.perm_append_comm)
theorem zlH {k n : Nat} {y : Int} (h : y ∈ ioF k n) : (k : Int) < y ∧ y ≤ (k : Int) + n := by
 obtain ⟨i, hi, rfl⟩ := List.mem_map.1 h
 have := List.mem_range.1 hi
 omega
theorem zlG (k n : Nat) : (ioF k n).Nodup := by
 unfold ioF
 refine List.pairwise_map.2 (List.nodup_range.imp fun {a b} hne e => hne ?_)
 omega
theorem znl {h : Nat} {t : Tr.T h} {s : SvS} (hn : (oldA h t).Nodup) (ho : ∀ d ∈ nds h t, d.a ≤ s.k) : (pl h (svT h t s).1).Nodup := by
 refine (zhN h t s).nodup_iff.2 (List.nodup_append.2 ⟨hn, zlG _ _, fun a ha b hb e => ?_⟩)
 obtain ⟨d, hd, e1, _⟩ := ziV.1 ha
 have h1 := ho d hd
 have h2 := (zlH hb).1
 omega
theorem znG {h : Nat} {t : Tr.T h} {s : SvS} {was : List Int} (ho : ∀ d ∈ nds h t, d.a = 0 ∨ d.a ∈ was) (hw : ∀ y ∈ was, y ≤ (s.k : Int)) : (pl h (svT h t s).1).countP (fun y => decide (y ∈ was)) = (oldA h t).length := by
 rw [(zhN h t s).countP_eq, List.countP_append]
 have h1 : (oldA h t).countP (fun y => decide (y ∈ was)) = (oldA h t).length := List.countP_eq_length.2 fun y hy => by
  obtain ⟨d, hd, e1, h0⟩ := ziV.1 hy
  rcases ho d hd with h2 | h2
  ·exact absurd (e1.symm.trans h2) h0
  ·exact decide_eq_true (e1 ▸ h2)
 have h2 : (ioF s.k (fr h t)).countP (fun y => decide (y ∈ was)) = 0 := List.countP_eq_zero.2 fun y hy hm => by
  have h3 := hw y (of_decide_eq_true hm)
  have h4 := (zlH hy).1
  omega
 rw [h1, h2]
 rfl
theorem zoD {h : Nat} {t : Tr.T h} {s : SvS} : (pl h (svT h t s).1).length = (oldA h t).length + fr h t := by
 have := (zhN h t s).length_eq
 rw [List.length_append] at this
 rw [this]
 unfold ioF
 rw [List.length_map, List.length_range]
theorem zml {f : Nat → List Int} {k : Nat} : ∀ (h : Nat) (t : Tr.T h), Dsk f h t → (∀ d ∈ nds h t, 0 < d.a ∧ d.a ≤ k) → AllT (OldP f k) h t
 | 0, t, hd, ha => by
   obtain ⟨a1, a2⟩ := ha t.1 (.head _)
   exact ⟨by show 0 ≤ t.1.a; omega, a2, fun _ => ⟨hd, ha⟩⟩
 | h + 1, t, hd, ha => by
   obtain ⟨a1, a2⟩ := ha t.1 (.head _)
   exact ⟨⟨by show 0 ≤ t.1.a; omega, a2, fun _ => ⟨hd, ha⟩⟩, fun k hk => zml h k (hd.2 k hk) fun d hd => ha d (zbG hk hd)⟩
theorem znd {d d' : NodeD} (s : SameA d d') : slD d' = slD d := by
 unfold slD slL
 rw [s.K, s.Ks, s.V, s.Vs, s.C, s.Cs]
theorem zow : ∀ (h : Nat) (t : Tr.T h) (s : SvS), ∀ d' ∈ nds h (svT h t s).1, ∃ d ∈ nds h t, SameA d d'
 | 0, t, s, d', hd => by
   obtain rfl := m1 hd
   exact ⟨nd 0 t, .head _, zcF 0 t s⟩
 | h + 1, t, s, d', hd => by
   rcases zb2 hd with rfl | ⟨k, hk, hd⟩
   ·exact ⟨nd (h + 1) t, .head _, zcF (h + 1) t s⟩
   ·obtain ⟨x, s', hx, rfl⟩ := zey (svT h) t.2 s hk
    obtain ⟨d, h1, h2⟩ := zow h x s' d' hd
    exact ⟨d, zbG hx h1, h2⟩
theorem zmn (h : Nat) (t : Tr.T h) (s : SvS) : Der [slF h t] (slF h (svT h t s).1) := Der.all fun d' hd' => by
 obtain ⟨d, hd, e⟩ := zow h t s d' hd'
 rw [znd e]
 exact Der.elem (L := nds h t) (F := slD) (Der.mem (.head _)) hd
end Go.Proofs.YtaghmffgoomebaaGreat.St
namespace Go.Proofs.YtaghmffgoomebaaGreat.St
open Go.RowKit Mem Gx Bytes Dk Al Rf Hp Nd Ch Tw
open Tr hiding T row
theorem zkV : ∀ (h : Nat) (t : Tr.T h), pre h t = (nds h t).map NodeD.a
 | 0, t => rfl
 | h + 1, t => by
   show t.1.a :: (t.2.map (pre h)).flatten = t.1.a :: ((t.2.map (nds h)).flatten).map NodeD.a
   rw [List.map_flatten, List.map_map]
   congr 2
   exact List.map_congr_left fun k _ => zkV h k
theorem zhn {l : List NodeD} (h : (l.map NodeD.a).Nodup) : ∀ d ∈ l, ∀ d' ∈ l, d.a = d'.a → d = d' := by
 induction l with
 | nil => intro d hd; cases hd
 | cons x r ih =>
   intro d hd d' hd' e
   rw [List.map_cons, List.nodup_cons] at h
   rcases List.mem_cons.1 hd with e1 | m1
   ·rcases List.mem_cons.1 hd' with e2 | m2
    ·rw [e1, e2]
    ·exact absurd (List.mem_map.2 ⟨d', m2, by rw [← e, e1]⟩) h.1
   ·rcases List.mem_cons.1 hd' with e2 | m2
    ·exact absurd (List.mem_map.2 ⟨d, m1, by rw [e, e2]⟩) h.1
    ·exact ih h.2 d m1 d' m2 e
theorem all_in : ∀ (h : Nat) (t : Tr.T h) (old : List NodeD), (∀ d ∈ nds h t, d ∈ old) → AllT (fun h t => (nd h t).a = 0 ∨ nd h t ∈ old) h t
 | 0, t, old, ha => .inr (ha _ (.head _))
 | h + 1, t, old, ha => ⟨.inr (ha _ (.head _)), fun k hk => all_in h k old fun d hd => ha d (zbG hk hd)⟩
structure BkI (S0 : List Sec) (a : Option AT) (M : List EntD) (k0 : Nat) (Wl : List (Nat × List Int)) (old : List NodeD) (was : List Int) : Prop where
 has : HasO a M
 z : AllO (fun h t => (nd h t).a = 0 ∨ nd h t ∈ old) a
 o : AllO (OldP (sec S0 Wl) k0) a
 inj : ∀ d ∈ old, ∀ d' ∈ old, d.a = d'.a → d = d'
 ws : ∀ d ∈ old, d.a ∈ was
 wk : ∀ y ∈ was, y ≤ (k0 : Int)
 bd : ∀ e ∈ M, e.Bd
theorem BkI.start (S0 : List Sec) : BkI S0 none [] 0 [] [] [] := ⟨rfl, fun b h => (by cases h), fun b h => (by cases h), fun d h => (by cases h), fun d h => (by cases h), fun y h => (by cases h), fun e h => (by cases h)⟩
theorem BkI.step {S0 : List Sec} {a : Option AT} {M : List EntD} {k0 : Nat} {Wl : List (Nat × List Int)} {old : List NodeD} {was : List Int} (H : BkI S0 a M k0 Wl old was) {o : OpD} {r : StepO} (hr : StepI a M o r) (ho : o.e.Bd) : BkI S0 r.a r.M k0 Wl old was :=
 ⟨hr.has, zoy (fun _ _ h => .inl h) hr H.z, zoy (fun h t e => znr _ _ h t e) hr H.o, H.inj, H.ws, H.wk, zo9 hr H.bd ho⟩
structure BkS (S0 : List Sec) (h : Nat) (t : Tr.T h) (M : List EntD) (k0 : Nat) (Wl : List (Nat × List Int)) (was : List Int) : Prop where
 old : ∀ d ∈ nds h t, 0 ≤ d.a ∧ d.a ≤ k0
 nodup : (pl h (svT h t ⟨k0, [], Wl⟩).1).Nodup
 dsk : Dsk (sec S0 (svT h t ⟨k0, [], Wl⟩).2.W) h (svT h t ⟨k0, [], Wl⟩).1
 a : ∀ d ∈ nds h (svT h t ⟨k0, [], Wl⟩).1, 0 < d.a ∧ d.a ≤ (svT h t ⟨k0, [], Wl⟩).2.k
 kept : (pl h (svT h t ⟨k0, [], Wl⟩).1).countP (fun y => decide (y ∈ was)) + fr h t = (pl h (svT h t ⟨k0, [], Wl⟩).1).length
 next : BkI S0 (some ⟨h, (svT h t ⟨k0, [], Wl⟩).1⟩) M (k0 + fr h t) (svT h t ⟨k0, [], Wl⟩).2.W (nds h (svT h t ⟨k0, [], Wl⟩).1) (pl h (svT h t ⟨k0, [], Wl⟩).1)
theorem BkI.save {S0 : List Sec} {h : Nat} {t : Tr.T h} {M : List EntD} {k0 : Nat} {Wl : List (Nat × List Int)} {old : List NodeD} {was : List Int} (H : BkI S0 (some ⟨h, t⟩) M k0 Wl old was) (hg : (gs h t).Nodup) : BkS S0 h t M k0 Wl was := by
 have hH : Has h t M := H.has
 have hz : ∀ d ∈ nds h t, d.a = 0 ∨ d ∈ old := zit (p := fun d => d.a = 0 ∨ d ∈ old) (H.z ⟨h, t⟩ rfl)
 have hO := H.o ⟨h, t⟩ rfl
 have ho : ∀ d ∈ nds h t, 0 ≤ d.a ∧ d.a ≤ k0 := zit (p := fun d => 0 ≤ d.a ∧ d.a ≤ k0) (zfd (fun h t z => ⟨z.1, z.2.1⟩) hO)
 have hon : (oldA h t).Nodup := zjW hg fun d hd d' hd' e h0 => by
  rcases hz d hd with h1 | h1
  ·exact absurd h1 h0
  rcases hz d' hd' with h2 | h2
  ·exact absurd (e.trans h2) h0
  ·rw [H.inj d h1 d' h2 e]
 have hnd := znl (s := ⟨k0, [], Wl⟩) hon fun d hd => (ho d hd).2
 obtain ⟨d1, d2, d3⟩ := zo7 S0 h t ⟨k0, [], Wl⟩ hO
 have hk : (svT h t ⟨k0, [], Wl⟩).2.k = k0 + fr h t := (zex h t ⟨k0, [], Wl⟩).1
 have hkc := znG (s := ⟨k0, [], Wl⟩) (was := was) (fun d hd => (hz d hd).imp id fun hm => H.ws d hm) H.wk
 have hpn : ((nds h (svT h t ⟨k0, [], Wl⟩).1).map NodeD.a).Perm (pl h (svT h t ⟨k0, [], Wl⟩).1) := by rw [← zkV]; exact zcX h _
 refine ⟨ho, hnd, d1, d3, by rw [hkc, zoD], ⟨zkx _ hH, ?_, ?_, zhn (hpn.nodup_iff.2 hnd), fun d hd => hpn.mem_iff.1 (List.mem_map.2 ⟨d, hd, rfl⟩), fun y hy => ?_, H.bd⟩⟩
 ·intro b hb
  obtain rfl := Option.some.inj hb
  exact all_in h _ _ fun d hd => hd
 ·intro b hb
  obtain rfl := Option.some.inj hb
  rw [← hk]
  exact zml h _ d1 d3
 ·obtain ⟨d, hd, e⟩ := List.mem_map.1 (hpn.mem_iff.2 hy)
  rw [← hk, ← e]
  exact (d3 d hd).2
end Go.Proofs.YtaghmffgoomebaaGreat.St
namespace Go.Proofs.YtaghmffgoomebaaGreat.Gx
open Go.RowKit Mem
section
variable {X : Cx} {f : Fr} {O R : List Fact} {ks k : List KI} {ops lo : List Oper} {P : Prop}
theorem g_get (h : ∀ w, Kn X.E X.w0 w O R → P) (hg : P → G X ops lo k f O R) : G X ops lo k f O R := .mk fun a w hr hk => (hg (h w hk)).out a w hr hk
end
end Go.Proofs.YtaghmffgoomebaaGreat.Gx
namespace Go.Proofs.YtaghmffgoomebaaGreat.St
open Go.RowKit Mem Gx Bytes Dk Al Rf Hp Nd Ch Tw
open Tr hiding T row
theorem svT_W : ∀ (h : Nat) (t : Tr.T h) (s : SvS), (svT h t s).2.W.length = s.W.length + fr h t := by
 have kN : ∀ (d : NodeD) (X : List Int) (s : SvS), (svN d X s).2.W.length = s.W.length + frN d := fun d X s => by
  unfold svN frN
  split
  ·show (s.W ++ [_]).length = _
   rw [List.length_append]
   rfl
  ·rfl
 intro h
 induction h with
 | zero => intro t s; exact kN ..
 | succ h ih =>
   intro t s
   have key : ∀ (ks : List (Tr.T h)) (s : SvS), (svL (svT h) ks s).2.W.length = s.W.length + (ks.map (fr h)).sum := fun ks => by
    induction ks with
    | nil => intro s; rfl
    | cons x r ihr =>
      intro s
      show (svL (svT h) r (svT h x s).2).2.W.length = s.W.length + (fr h x + (r.map (fr h)).sum)
      rw [ihr, ih]
      omega
   show (svN t.1 _ (svL (svT h) t.2 s).2).2.W.length = s.W.length + ((t.2.map (fr h)).sum + frN t.1)
   rw [kN, key]
   omega
theorem pl_end : ∀ (h : Nat) (t : Tr.T h), ∃ l, pl h t = l ++ [(nd h t).a]
 | 0, t => ⟨[], rfl⟩
 | h + 1, t => ⟨_, rfl⟩
theorem zpk (h : Nat) (t : Tr.T h) : 0 < (pl h t).length ∧ (pl h t)[(pl h t).length - 1]? = some (nd h t).a := by
 obtain ⟨l, e⟩ := pl_end h t
 rw [e, List.length_append]
 refine ⟨by show 0 < l.length + 1; omega, ?_⟩
 show (l ++ [(nd h t).a])[l.length + 1 - 1]? = _
 rw [Nat.add_sub_cancel, List.getElem?_append_right (Nat.le_refl _), Nat.sub_self]
 rfl
theorem zlg : ∀ (h : Nat) (t : Tr.T h), (nds h t).length = Tr.cnt h t
 | 0, t => rfl
 | h + 1, t => by
   have e : Tr.cnt (h + 1) t = (⟨h + 1, t⟩ : AT).cnt := rfl
   rw [e, AT.zoZ]
   show ((t.2.map (nds h)).flatten).length + 1 = 1 + (((Tr.kids t).map fun k => (⟨h, k⟩ : AT)).map AT.cnt).sum
   rw [List.length_flatten, List.map_map, List.map_map, Nat.add_comm]
   congr 2
   exact List.map_congr_left fun k _ => zlg h k
theorem zoI (h : Nat) (t : Tr.T h) (s : SvS) : (nds h (svT h t s).1).length = (nds h t).length := by
 have h1 := congrArg List.length (zky h t s)
 rw [zeT, zeT, List.length_map, List.length_map] at h1
 exact h1
theorem zoC (h : Nat) (t : Tr.T h) (s : SvS) : (pl h (svT h t s).1).length = (nds h t).length := by
 rw [← zoI h t s, ← zf4, (zcX h _).length_eq]
theorem fr_nds (h : Nat) (t : Tr.T h) : fr h t ≤ (nds h t).length := by
 have h1 := zoD (h := h) (t := t) (s := ⟨0, [], []⟩)
 rw [zoC] at h1
 omega
theorem sv_S {h : Nat} {t : Tr.T h} {s : SvS} {b : Nat} (hb : (stF (some (⟨h, (svT h t s).1⟩ : AT))).S b) : (stF (some (⟨h, t⟩ : AT))).S b := by
 have back : (treeF h t).S b → (stF (some (⟨h, t⟩ : AT))).S b := fun h1 => by
  obtain ⟨ψ, h2, h3⟩ := (zfr (⟨h, t⟩ : AT)).S b h1
  obtain rfl := m1 h2
  exact h3
 obtain ⟨ψ, h1, h2⟩ := (zhy (⟨h, (svT h t s).1⟩ : AT)).S b hb
 obtain rfl := m1 h1
 obtain ⟨ψ, h3, h4⟩ := (zjv h (svT h t s).1).S b h2
 rcases List.mem_cons.1 h3 with rfl | h3
 ·refine back ?_
  have h5 := hd_S.1 h4
  rw [← zeT, zky, zeT] at h5
  obtain ⟨ψ, h6, h7⟩ := (zoX h t).S b (hd_S.2 h5)
  obtain rfl := m1 h6
  exact h7
 ·obtain rfl := m1 h3
  refine back ?_
  obtain ⟨ψ, h5, h6⟩ := (zmn h t s).S b h4
  obtain rfl := m1 h5
  obtain ⟨ψ, h7, h8⟩ := (zoW h t).S b h6
  obtain rfl := m1 h7
  exact h8
theorem zmo (h : Nat) (t : Tr.T h) : Der [hdF h t, slF h t] (stF (some (⟨h, t⟩ : AT))) := (zhy (⟨h, t⟩ : AT)).trans fun ψ hψ => by
 obtain rfl := m1 hψ
 exact zjv h t
theorem zmh {w : World} {h : Nat} {t : Tr.T h} {A : Option Addr} {M : List EntD} (H : (treeF h t).p w) (hM : (sl A 4 EE M).p w) : ∀ b, (hdF h t).S b → ¬ (sl A 4 EE M).S b := by
 rintro b ⟨d, hd, h2⟩ hS
 have e : b = d.g := h2
 subst e
 have hc := zgk (zeh (zds H hd))
 obtain ⟨off, h1⟩ := zna (enc := EE) hM hS
 have k := (h1 0 hS.1 0 (by decide)).symm.trans (hc _)
 match off + 0 * 4 + 0, k with
 | 0, k => simp [EE] at k
 | 1, k => simp [EE, SlV.v] at k
 | 2, k => simp [EE, SlV.v] at k
 | 3, k => simp [EE, SlV.v] at k
 | 4, k => simp [EE] at k
 | _ + 5, k => simp at k
theorem BkI.nil {S0 : List Sec} {k0 : Nat} {Wl : List (Nat × List Int)} : BkI S0 none [] k0 Wl [] [] := ⟨rfl, fun b h => (by cases h), fun b h => (by cases h), fun d h => (by cases h), fun d h => (by cases h), fun y h => (by cases h), fun e h => (by cases h)⟩
def keptN (was l : List Int) (i : Nat) : Nat := (l.take i).countP fun y => decide (y ∈ was)
theorem zj6 {was l : List Int} {i : Nat} {y : Int} (h : l[i]? = some y) : keptN was l (i + 1) = keptN was l i + if y ∈ was then 1 else 0 := by
 unfold keptN
 obtain ⟨h1, h2⟩ := List.getElem?_eq_some_iff.1 h
 rw [List.take_succ_eq_append_getElem h1, h2, List.countP_append]
 by_cases hm : y ∈ was
 ·simp [hm]
 ·simp [hm]
theorem znH {was l : List Int} {i : Nat} : keptN was l i ≤ i := by
 unfold keptN
 have h1 : ((l.take i).countP fun y => decide (y ∈ was)) ≤ (l.take i).length := List.countP_le_length
 rw [List.length_take] at h1
 omega
theorem zlC {was l : List Int} : keptN was l l.length = l.countP fun y => decide (y ∈ was) := by
 unfold keptN
 rw [List.take_length]
end Go.Proofs.YtaghmffgoomebaaGreat.St
