/- node.Inner. Entries; Clone, halves of nodes; what is handed back of Leaves and Inners, as lists of nodes. -/
import Derived.Test.YtaghmffgoomebaaGreatNdC
import Derived.Test.YtaghmffgoomebaaGreatNd3
set_option linter.unusedVariables false
set_option linter.unusedSimpArgs false
namespace Go.Proofs.YtaghmffgoomebaaGreat.Nd
open Go.RowKit Mem Gx
set_option maxRecDepth 100000
set_option maxHeartbeats 4000000
abbrev kidB (d : NodeD) : Fact := row d.g 0 [.bool d.leaf, d.K.v, d.V.v, d.C.v, .int .u32 d.a]
abbrev kidK (d : NodeD) : Fact := sl d.K.A 3 KE d.Ks
structure IsInner (ds : List NodeD) (d : NodeD) : Prop where
 ok : d.Ok
 leaf : d.leaf = false
 Ks : d.Ks = ds.map (fun x => x.Ks.getD 0 default)
 Vs : d.Vs = []
 Cs : d.Cs = ds.map NodeD.g
 a : d.a = 0
structure IsInnerW (ds : List NodeD) (d : NodeD) : Prop where
 ok : d.Ok
 leaf : d.leaf = false
 Ks : d.Ks = ds.map (fun x => x.Ks.getD 0 default)
 Vs : d.Vs = []
 Cs : d.Cs = ds.map NodeD.g
theorem IsInner.w {ds : List NodeD} {d : NodeD} (h : IsInner ds d) : IsInnerW ds d := ⟨h.ok, h.leaf, h.Ks, h.Vs, h.Cs⟩
theorem zdF (A : Option Addr) (n c : Nat) (ds : List NodeD) (w : World) (hn : n = ds.length) (h9 : n ≤ 1000) (hne : ∀ d ∈ ds, 0 < d.Ks.length ∧ d.Ok) (hB : Rds w [allF ds kidB, allF ds kidK, sl A 1 PE (ds.map NodeD.g)]) :
 Calls Tryz.prog 64 [.slice A n c].toArray w (Ret (IsInner ds) NodeD.ptr NodeD.fs w) := by
 refine zab T [] [] [allF ds kidB, allF ds kidK, sl A 1 PE (ds.map NodeD.g)] Tryz.func64 rfl Tryz.ntmps64 rfl hB.kn ?_
 (repeat (refine gG ?_; try intro _))
 refine cR (fun w hk => zoh A n c (ds.map NodeD.g) w (by rw [List.length_map]; exact hn) (by omega) (hk.pR (sl A 1 PE (ds.map NodeD.g)) mE)) (fun cs hcs => ?_)
 (repeat (refine gG ?_; try intro _))
 rename_i g
 refine zbO 0 29 3 KE ?_
 refine gL3 (fun (j : Nat) (a : Value) (M : (List KeyD)) => j ≤ ds.length ∧ M = (ds.take j).map (fun x => x.Ks.getD 0 default)) (fun j a M => [(3, .pointer (some ⟨g, 0, none⟩)), (10, .slice A n c), (11, .int .i64 n), (12, .int .i64 j)]) (fun j a M => [own 0 29 3 a KE M, blk g [.bool false, a, .slice none 0 0, cs.v, .int .u32 0] 109, sl cs.A 1 PE (ds.map NodeD.g)]) (fun j a M => [allF ds kidB, allF ds kidK, sl A 1 PE (ds.map NodeD.g)]) (fun j a M => ds.length - j) 0 (.slice none 0 0) [] ⟨Nat.zero_le _, rfl⟩ ?_
 rintro j a M hI
 obtain ⟨hj, hM⟩ := hI
 have hMl : M.length = j := by rw [hM, List.length_map, List.length_take]; omega
 (repeat (refine gG ?_; try intro _))
 refine zaJ rfl rfl (zaH _) (fun h1 => ?_) (fun h1 => ?_)
 ·have hjL : j < ds.length := by omega
  obtain ⟨d, hd⟩ : ∃ d, ds[j]? = some d := ⟨ds[j], List.getElem?_eq_getElem hjL⟩
  have hdm := List.mem_of_getElem? hd
  refine zgs (l := ds) (F := kidB) (x := d) mE hdm ?_
  refine zgs (l := ds) (F := kidK) (x := d) mE hdm ?_
  refine zar (enc := PE) (L := ds.map NodeD.g) j mE (by rw [List.length_map]; omega) (by decide) (fun b0 off y eA hy => ?_)
  subst eA
  obtain rfl : d.g = y := by
   rw [List.getElem?_map, hd] at hy
   exact Option.some.inj hy
  have hd0 : 0 < d.K.n := by rw [(hne d hdm).2.K.n]; exact (hne d hdm).1
  refine zar (enc := KE) (L := d.Ks) 0 mE (hne d hdm).1 (by decide) (fun b1 o1 k eA hk0 => ?_)
  (repeat (refine gG ?_; try intro _))
  refine zas [3, 6] (Cut _ (fun v : Value => [(3, .pointer (some ⟨g, 0, none⟩)), (10, .slice (some ⟨b0, off, none⟩) n c), (11, .int .i64 n), (12, .int .i64 j)]) (fun v => [own 0 29 3 v KE (M ++ [k]), blk g [.bool false, v, .slice none 0 0, cs.v, .int .u32 0] 109, sl cs.A 1 PE (ds.map NodeD.g)]) (fun _ => [allF ds kidB, allF ds kidK, sl (some ⟨b0, off, none⟩) 1 PE (ds.map NodeD.g)])) rfl rfl kR ?_ (zaD fun v => ?_)
  ·skip
   refine gY hT 0 ?_
   refine gY hT 1 ?_
   refine gY hT 2 ?_
   refine gY hT 3 ?_
   refine gY hT 5 ?_
   refine gY hT 6 ?_
   refine gY hT 7 ?_
   refine gW hT 8 ?_
   try (refine zam 24 (.slice (some ⟨b1, o1, none⟩) d.K.n d.K.c) rfl (by show d.K.v = _; unfold SlV.v; rw [eA]) ?_)
   refine gY hT 9 ?_
   refine gW hT 10 ?_
   refine gA2 4 11 ?_ ?_
   ·refine zaC rfl (zaf hT rfl rfl mE rfl rfl) ?_
    refine ⟨sF, ?_⟩
    refine gP 11 ?_
    (refine zaa (len := 1) rfl hT rfl rfl rfl rfl rfl rfl rfl rfl ?_; intro g6)
    refine ⟨sF, ?_⟩
    refine gP 12 ?_
    refine zac rfl [k] rfl rfl rfl rfl za6 uD (zah mE rfl) rfl (by intro x j; rcases j with _ | _ | _ | j <;> rfl) sM sN (Nat.zero_le _) (fun v1 => ?_)
    refine ⟨sF, ?_⟩
    (refine zai v1 mE (fun A1 c1 hv1 _ _ _ => ?_); subst hv1)
    refine gY hT 13 ?_
    refine gY hT 14 ?_
    first | refine gO 15 ?_ | (refine gX 15 ?_; intro _)
    refine zak dK ?_
    exact ⟨.slice A1 (M ++ [k]).length c1, fS, sA, sS⟩
   ·(refine zaa (len := 1) rfl hT rfl rfl rfl rfl rfl rfl rfl rfl ?_; intro g6)
    refine ⟨sF, ?_⟩
    refine gP 4 ?_
    refine zaC rfl (zaf hT rfl rfl mE rfl rfl) ?_
    refine ⟨sF, ?_⟩
    refine gP 12 ?_
    refine zac rfl [k] rfl rfl rfl rfl za6 uD (zah mE rfl) rfl (by intro x j; rcases j with _ | _ | _ | j <;> rfl) sM sN (Nat.zero_le _) (fun v1 => ?_)
    refine ⟨sF, ?_⟩
    (refine zai v1 mE (fun A1 c1 hv1 _ _ _ => ?_); subst hv1)
    refine gY hT 13 ?_
    refine gY hT 14 ?_
    first | refine gO 15 ?_ | (refine gX 15 ?_; intro _)
    refine zak dK ?_
    exact ⟨.slice A1 (M ++ [k]).length c1, fS, sA, sS⟩
  ·(repeat (refine gG ?_; try intro _))
   refine zag rfl (j + 1, v, M ++ [k]) ⟨by omega, by
    rw [hM, List.take_succ_eq_append_getElem hjL, List.map_append]
    rw [List.getElem?_eq_getElem hjL] at hd
    injection hd with hd
    rw [hd]
    show _ = _ ++ [d.Ks.getD 0 default]
    rw [List.getD_eq_getElem?_getD, hk0]; rfl⟩ (by dsimp only; omega) fS sA sS
 ·have hjn : j = ds.length := by omega
  (repeat (refine gG ?_; try intro _))
  refine zaW _ uD (fun A1 c1 hA1 hA11 hA12 hA13 => ?_); subst hA1
  refine zba none 1 (IE .u32) ?_
  (repeat (refine gG ?_; try intro _))
  refine zad hT rfl rfl (.tmp rfl .nil) (fun w' hk => ?_)
  exact Ret.mk ⟨g, false, ⟨A1, M.length, c1⟩, M, ⟨none, 0, 0⟩, [], cs, ds.map NodeD.g, 0⟩ ⟨⟨⟨rfl, hA11, hA12, hA13⟩, SlV.zdx, hcs⟩, rfl, by rw [hM, hjn, List.take_length], rfl, rfl, rfl⟩ rfl hk sA
end Go.Proofs.YtaghmffgoomebaaGreat.Nd
namespace Go.Proofs.YtaghmffgoomebaaGreat.Nd
open Go.RowKit Mem Gx
set_option maxRecDepth 100000
set_option maxHeartbeats 4000000
inductive All2 {α β : Type} (P : α → β → Prop) : List α → List β → Prop
 | nil : All2 P [] []
 | cons {a : α} {b : β} {l : List α} {m : List β} (h : P a b) (t : All2 P l m) : All2 P (a :: l) (b :: m)
def cutN {α : Type} (L : List α) : List (List α) := if L.length = 0 then [] else if L.length ≤ 6 then [L] else [L.take (L.length / 2), L.drop (L.length / 2)]
abbrev NodeD.b (d : NodeD) : Fact := blk d.g [.bool d.leaf, d.K.v, d.V.v, d.C.v, .int .u32 d.a] 109
def nodeF (d : NodeD) : Fact := allF d.fs id
theorem zcI {α : Type} [Inhabited α] {w : World} {g T : Nat} {cs : List Value} {sz : Nat} {enc : α → Nat → Value} {M : List α} (hb : w.heap[g]? = some (.cells cs.toArray T (0, 0))) (he : cs = flatF sz enc M) : Sl w (some ⟨g, 0, none⟩) sz enc M := fun hn => by
 refine ⟨g, 0, rfl, fun i hi j hj => ?_⟩
 have hy : M[i]? = some M[i] := List.getElem?_eq_getElem hi
 rw [Nat.zero_add, cell_of_row w g _ cs.toArray T (0, 0) hb, zfg hy, he]
 simpa using zbe sz enc M i j _ hy hj
section
variable {w w' : World} {O R RA : List Fact}
theorem RS1.lit {α : Type} [Inhabited α] {g T : Nat} {cs : List Value} {sz : Nat} {enc : α → Nat → Value} {M : List α} (hk : Kn [] w w' O R) (hm : blk g cs T ∈ O) (he : cs = flatF sz enc M) : RS1 w w' RA (sl (some ⟨g, 0, none⟩) sz enc M) := by
 have h := RS1.own (RA := RA) hk hm
 refine ⟨zcI (hk.pO _ hm) he, fun b hb => ?_⟩
 obtain ⟨_, a, ha, hab⟩ := hb
 injection ha with ha
 exact h.2 b (by rw [← hab, ← ha]; rfl)
theorem RS1.node {d : NodeD} (hk : Kn [] w w' O R) (h1 : d.b ∈ O) (h2 : sl d.K.A 3 KE d.Ks ∈ O) (h3 : sl d.V.A 1 (IE .u32) d.Vs ∈ O) (h4 : sl d.C.A 1 PE d.Cs ∈ O) : RS1 w w' RA (nodeF d) := by
 refine RS1.all fun φ hφ => ?_
 unfold NodeD.fs at hφ
 rcases List.mem_cons.1 hφ with h | hφ
 ·rw [h]; exact RS1.own hk h1
 rcases List.mem_cons.1 hφ with h | hφ
 ·rw [h]; exact RS1.own hk h2
 rcases List.mem_cons.1 hφ with h | hφ
 ·rw [h]; exact RS1.own hk h3
 obtain rfl := m1 hφ
 exact RS1.own hk h4
theorem RS1.nodes {ds : List NodeD} (h : ∀ d, d ∈ ds → RS1 w w' RA (nodeF d)) : RS1 w w' RA (allF ds nodeF) := RS1.all h
theorem zbQ {d : NodeD} (h : Rd1 w (nodeF d)) : Rd1 w d.b := h.open (F := id) (x := d.b) (by unfold NodeD.fs; exact .head _)
theorem zkS {d : NodeD} (h : Rd1 w (nodeF d)) : Rd1 w (sl d.K.A 3 KE d.Ks) := h.open (F := id) (x := sl d.K.A 3 KE d.Ks) (by unfold NodeD.fs; simp)
theorem rd_nV {d : NodeD} (h : Rd1 w (nodeF d)) : Rd1 w (sl d.V.A 1 (IE .u32) d.Vs) := h.open (F := id) (x := sl d.V.A 1 (IE .u32) d.Vs) (by unfold NodeD.fs; simp)
theorem rd_nC {d : NodeD} (h : Rd1 w (nodeF d)) : Rd1 w (sl d.C.A 1 PE d.Cs) := h.open (F := id) (x := sl d.C.A 1 PE d.Cs) (by unfold NodeD.fs; simp)
theorem ziN {α : Type} {l m : List α} {F : α → Fact} (h : Rd1 w (allF l F)) (hs : ∀ x, x ∈ m → x ∈ l) : Rd1 w (allF m F) := Rd1.all fun x hx => h.open (hs x hx)
theorem zf3 {ds : List NodeD} (h : Rd1 w (allF ds nodeF)) : Rd1 w (allF ds kidB) := Rd1.all fun d hd => (zbQ (h.open hd)).row
theorem zf2 {ds : List NodeD} (h : Rd1 w (allF ds nodeF)) : Rd1 w (allF ds kidK) := Rd1.all fun d hd => zkS (h.open hd)
end
theorem zii (g : Nat) (lf : Bool) (K V C : SlV) (a : Int) (L : List EntD) (w : World) (hK : K.n = L.length) (hV : V.n = L.length) (h9 : L.length ≤ 10000) (hB : Rds w [blk g [.bool lf, K.v, V.v, C.v, .int .u32 a] 109, sl K.A 3 KE (L.map (·.k)), sl V.A 1 (IE .u32) (L.map (·.a))]) :
 Calls Tryz.prog 45 [.pointer (some ⟨g, 0, none⟩)].toArray w (Ret (fun _ : Value => True) (fun v => v) (fun v => [own 0 31 4 v EE L]) w) := by
 obtain ⟨KA, Kn, Kc⟩ := K
 obtain ⟨VA, Vn, Vc⟩ := V
 dsimp only at hK hV
 have hB' : Rds w [blk g [.bool lf, .slice KA Kn Kc, .slice VA Vn Vc, C.v, .int .u32 a] 109, sl KA 3 KE (L.map (·.k)), sl VA 1 (IE .u32) (L.map (·.a))] := hB
 clear hB
 refine zab T [] [] [blk g [.bool lf, .slice KA Kn Kc, .slice VA Vn Vc, C.v, .int .u32 a] 109, sl KA 3 KE (L.map (·.k)), sl VA 1 (IE .u32) (L.map (·.a))] Tryz.func45 rfl Tryz.ntmps45 rfl hB'.kn ?_
 refine za9 (g := g) mE ?_
 (repeat (refine gG ?_; try intro _))
 refine zbO 0 31 4 EE ?_
 refine gL3 (fun (j : Nat) (v : Value) (M : (List EntD)) => j ≤ L.length ∧ M = L.take j) (fun j v M => [(0, .pointer (some ⟨g, 0, none⟩)), (3, v), (9, .slice VA Vn Vc), (10, .int .i64 Vn), (11, .int .i64 j)]) (fun j v M => [own 0 31 4 v EE M]) (fun j v M => [row g 0 [.bool lf, .slice KA Kn Kc, .slice VA Vn Vc, C.v, .int .u32 a], sl KA 3 KE (L.map (·.k)), sl VA 1 (IE .u32) (L.map (·.a))]) (fun j v M => L.length - j) 0 (.slice none 0 0) [] ⟨Nat.zero_le _, rfl⟩ ?_
 rintro j v M hI
 obtain ⟨hj, hM⟩ := hI
 have hMl : M.length = j := by rw [hM, List.length_take]; omega
 (repeat (refine gG ?_; try intro _))
 refine zaJ rfl rfl (zaH _) (fun hlt => ?_) (fun hlt => ?_)
 ·have hjL : j < L.length := by omega
  obtain ⟨y, hy⟩ : ∃ y, L[j]? = some y := ⟨L[j], List.getElem?_eq_getElem hjL⟩
  refine zar (enc := KE) (L := L.map (·.k)) j mE (by rw [List.length_map]; omega) (by decide) (fun b0 o0 y1 eA hy1 => ?_)
  subst eA
  obtain rfl : y.k = y1 := by
   rw [List.getElem?_map, hy] at hy1
   exact Option.some.inj hy1
  refine zar (enc := IE .u32) (L := L.map (·.a)) j mE (by rw [List.length_map]; omega) (by decide) (fun b1 o1 y2 eA hy2 => ?_)
  subst eA
  obtain rfl : y.a = y2 := by
   rw [List.getElem?_map, hy] at hy2
   exact Option.some.inj hy2
  (repeat (refine gG ?_; try intro _))
  refine g_mv rfl (zac rfl [y] rfl rfl rfl rfl zb7 uD (zah mE rfl) rfl (by intro x j; rcases j with _ | _ | _ | j <;> rfl) sM sN (Nat.zero_le _) (fun v1 => ?_))
  (repeat (refine gG ?_; try intro _))
  refine zag rfl (j + 1, v1, M ++ [y]) ⟨by omega, by
   rw [hM, List.take_succ_eq_append_getElem hjL]
   rw [List.getElem?_eq_getElem hjL] at hy
   injection hy with hy
   rw [hy]⟩ (by dsimp only; omega) fS sA sS
 ·have hjn : j = L.length := by omega
  subst hjn
  rw [List.take_length] at hM
  subst hM
  (repeat (refine gG ?_; try intro _))
  refine zad hT rfl rfl (.tmp rfl .nil) (fun w' hk => ?_)
  exact Ret.mk v trivial rfl hk sA
theorem zdk (A : Option Addr) (n c : Nat) (L : List Nat) (w : World) (hn : n = L.length) (hb : n ≤ 100000000) (hs : Sl w A 1 PE L) :
 Calls Tryz.prog 63 [.slice A n c].toArray w (Ret (fun _ : Value => True) (fun v => v) (fun v => [own 0 53 1 v PE L]) w) := by
 rcases A with _ | a
 ·have hL : L = [] := by
   rcases Nat.eq_zero_or_pos L.length with h | h
   ·exact List.length_eq_zero_iff.1 h
   ·obtain ⟨b, off, e, _⟩ := hs h; cases e
  subst hL
  refine zab T [] [] [] Tryz.func63 rfl Tryz.ntmps63 rfl (Kn.start _) ?_
  (repeat (refine gG ?_; try intro _))
  refine zbO 0 53 1 PE ?_
  refine zad hT rfl rfl (.tmp rfl .nil) (fun w' hk => ?_)
  exact Ret.mk (.slice none 0 0) trivial rfl hk sA
 ·refine zab T [] [] [sl (some a) 1 PE L] Tryz.func63 rfl Tryz.ntmps63 rfl ((Kn.start w).argR hs (by decide) (fun _ h => by cases h)) ?_
  (repeat (refine gG1 ?_; try intro _))
  refine g_mv rfl (zcZ 1 PE rfl hT rfl rfl rfl rfl rfl (fun g => ?_))
  (repeat (refine gG1 ?_; try intro _))
  refine g_mv rfl (zac (L := []) rfl L rfl rfl rfl rfl zij uD (zcG mE) hn (by intro x j; rfl) (by simp [maxLen]; omega) (by simp; omega) (Nat.zero_le _) (fun v => ?_))
  (repeat (refine gG1 ?_; try intro _))
  refine zad hT rfl rfl (.tmp rfl .nil) (fun w' hk => ?_)
  exact Ret.mk v trivial rfl hk sA
theorem zh7 (A : Option Addr) (n c : Nat) (w : World) (hc : n ≤ c) (h9 : n ≤ 10000) :
 Calls Tryz.prog 93 [.slice A n c].toArray w fun e w' => e = .returned (.tuple #[.slice (shA A 0 c 1) (n / 2) c, .slice (shA A (n / 2) c 1) (n - n / 2) (c - n / 2)]) ∧ Below w.heap.size w w' := by
 refine zab T [] [] [] Tryz.func93 rfl Tryz.ntmps93 rfl (Kn.start _) ?_
 (repeat (refine gG ?_; try intro _))
 have hd : (n : Int) / 2 = ((n / 2 : Nat) : Int) := by omega
 refine zas [] (Cut _ (fun _ : Unit => [(2, .slice (shA A 0 c 1) (n / 2) c), (3, .slice (shA A (n / 2) c 1) (n - n / 2) (c - n / 2))]) (fun _ => []) (fun _ => [])) rfl rfl kR ?_ (zaD fun _ => ?_)
 ·skip
  refine gY hT 0 ?_
  refine gY hT 1 ?_
  refine gY hT 2 ?_
  refine gY hT 3 ?_
  refine zaz 4 rfl dK rfl rfl (zaU hT (n / 2) rfl rfl rfl rfl hd (by omega)) sF ?_
  refine gY hT 5 ?_
  refine gY hT 6 ?_
  refine gY hT 7 ?_
  refine gY hT 8 ?_
  refine zaz 9 rfl dK rfl rfl (zav hT (n / 2) rfl rfl rfl rfl hd (by omega)) sF ?_
  refine gY hT 10 ?_
  refine gY hT 11 ?_
  refine zak dK ?_
  exact ⟨(), fS, sA, List.nil_subset _⟩
 ·(repeat (refine gG ?_; try intro _))
  refine zad hT rfl rfl (.tmp rfl (.tmp rfl .nil)) (fun w' hk => ?_)
  exact ⟨rfl, hk.toBelow⟩
def headF (s : SlV) (L : List Nat) : Fact := ⟨fun b => ∃ a, s.A = some a ∧ a.block = b, fun w => ∀ a, s.A = some a → ∃ g, a = ⟨g, 0, none⟩ ∧ w.heap[g]? = some (.cells (flatF 1 PE L).toArray 53 (0, 0)), fun w w' h hp a ha => by
 obtain ⟨g, e, hg⟩ := hp a ha
 exact ⟨g, e, (h g ⟨a, ha, by rw [e]⟩).trans hg⟩⟩
theorem RS1.head {w w' : World} {O R RA : List Fact} {g n c : Nat} {cs : List Value} {L : List Nat} (hk : Kn [] w w' O R) (hm : blk g cs 53 ∈ O) (he : cs = flatF 1 PE L) : RS1 w w' RA (headF ⟨some ⟨g, 0, none⟩, n, c⟩ L) := by
 refine ⟨fun a ha => ?_, fun b hb => ?_⟩
 ·injection ha with ha
  exact ⟨g, ha.symm, by rw [← he]; exact hk.pO _ hm⟩
 ·obtain ⟨a, ha, hb⟩ := hb
  injection ha with ha
  subst ha
  have h1 : (blk g cs 53).S b := hb.symm
  refine ⟨hk.ltO _ hm b h1, .inl ?_⟩
  rcases hk.ownS _ hm b h1 with h2 | h2
  ·exact h2
  ·cases h2
structure NS where
 s : SlV
 ds : List NodeD
abbrev RetN (I : List NodeD → Prop) (w : World) : Ending → World → Prop := RetS (fun p : NS => p.s.Ok p.ds.length ∧ I p.ds) (fun p => p.s.v) (fun p => [sl p.s.A 1 PE (p.ds.map NodeD.g), allF p.ds nodeF, headF p.s (p.ds.map NodeD.g)]) [] w
theorem zg0 {I : List NodeD → Prop} {w w' : World} {R O : List Fact} (hI : I []) (hk : Kn [] w w' O R) : RetN I w (.returned (.slice none 0 0)) w' :=
 RetS.mk ⟨⟨none, 0, 0⟩, []⟩ ⟨SlV.zdx, hI⟩ rfl hk (.cons ⟨fun h => absurd h (by decide), fun b hb => absurd hb.1 (by simp)⟩ (.cons (RS1.all fun x hx => by cases hx) (.cons ⟨fun a h => (by cases h), fun b ⟨a, h, _⟩ => (by cases h)⟩ .nil)))
theorem zck (A : Option Addr) (n c : Nat) (L : List EntD) (w : World) (hn : n = L.length) (hc : n ≤ c) (h9 : n ≤ 10000) (hs : Sl w A 4 EE L) :
 Calls Tryz.prog 59 [.slice A n c].toArray w (RetN (All2 IsLeaf (cutN L)) w) := by
 by_cases h0 : n = 0
 ·subst h0
  refine zab T [] [] [] Tryz.func59 rfl Tryz.ntmps59 rfl (Kn.start _) ?_
  (repeat' (first | (refine gH ?_; try intro _) | (refine gS ?_ ?_ <;> intro _) | fail))
  refine zad hT rfl rfl (.tmp rfl .nil) (fun w' hk => ?_)
  exact zg0 (by unfold cutN; rw [if_pos hn.symm]; exact .nil) hk
 by_cases h6 : n ≤ 6
 ·refine zab T [] [] [sl A 4 EE L] Tryz.func59 rfl Tryz.ntmps59 rfl ((Kn.start w).argR hs (by decide) (fun _ h => by cases h)) ?_
  (repeat' (first | (refine gH ?_; try intro _) | (refine gS ?_ ?_ <;> intro _) | fail))
  refine cR (fun w hk => zdA A n c L w hn (by omega) (hk.pR (sl A 4 EE L) mE)) (fun d hd => ?_)
  (repeat (refine gG ?_; try intro _))
  rename_i g1
  refine zad hT rfl rfl (.tmp rfl .nil) (fun w' hk => ?_)
  refine RetS.mk ⟨⟨some ⟨g1, 0, none⟩, 1, 1⟩, [d]⟩ ⟨⟨rfl, Nat.le_refl _, by show 1 ≤ maxLen; unfold maxLen; omega, fun h => by cases h⟩, ?_⟩ rfl hk (.cons (RS1.lit hk (cs := [d.ptr]) mE rfl) (.cons (RS1.nodes fun x hx => ?_) (.cons (RS1.head hk (cs := [d.ptr]) mE rfl) .nil)))
  ·unfold cutN; rw [if_neg (by omega), if_pos (by omega)]; exact .cons hd .nil
  ·obtain rfl := m1 hx
   exact RS1.node hk mE mE mE mE
 ·refine zab T [] [] [sl A 4 EE L] Tryz.func59 rfl Tryz.ntmps59 rfl ((Kn.start w).argR hs (by decide) (fun _ h => by cases h)) ?_
  refine zen (enc := EE) (L := L) (n / 2) c mE (by omega) ?_
  refine zep (enc := EE) (L := L) (n / 2) c mE (by omega) ?_
  (repeat' (first | (refine gH ?_; try intro _) | (refine g_mv rfl ?_; refine cb (fun w hk => zh8 A n c w hc h9) ?_) | (refine gS ?_ ?_ <;> intro _) | fail))
  refine cR (fun w hk => zdA (shA A 0 c 4) (n / 2) c (L.take (n / 2)) w (by rw [List.length_take]; omega) (by rw [List.length_take]; omega) (hk.pR (sl (shA A 0 c 4) 4 EE (L.take (n / 2))) mE)) (fun d hd => ?_)
  (repeat (refine gG ?_; try intro _))
  refine cR (fun w hk => zdA (shA A (n / 2) c 4) (n - n / 2) (c - n / 2) (L.drop (n / 2)) w (by rw [List.length_drop]; omega) (by rw [List.length_drop]; omega) (hk.pR (sl (shA A (n / 2) c 4) 4 EE (L.drop (n / 2))) mE)) (fun d2 hd2 => ?_)
  (repeat (refine gG ?_; try intro _))
  rename_i g1
  refine zad hT rfl rfl (.tmp rfl .nil) (fun w' hk => ?_)
  refine RetS.mk ⟨⟨some ⟨g1, 0, none⟩, 2, 2⟩, [d, d2]⟩ ⟨⟨rfl, Nat.le_refl _, by show 2 ≤ maxLen; unfold maxLen; omega, fun h => by cases h⟩, ?_⟩ rfl hk (.cons (RS1.lit hk (cs := [d.ptr, d2.ptr]) mE rfl) (.cons (RS1.nodes fun x hx => ?_) (.cons (RS1.head hk (cs := [d.ptr, d2.ptr]) mE rfl) .nil)))
  ·unfold cutN; rw [if_neg (by omega), if_neg (by omega), ← hn]; exact .cons hd (.cons hd2 .nil)
  ·rcases List.mem_cons.1 hx with rfl | hx
   ·exact RS1.node hk mE mE mE mE
   ·obtain rfl := m1 hx
    exact RS1.node hk mE mE mE mE
theorem zdX (A : Option Addr) (n c : Nat) (ds : List NodeD) (w : World) (hn : n = ds.length) (hc : n ≤ c) (h9 : n ≤ 1000) (hne : ∀ d ∈ ds, 0 < d.Ks.length ∧ d.Ok) (hB : Rds w [allF ds nodeF, sl A 1 PE (ds.map NodeD.g)]) :
 Calls Tryz.prog 61 [.slice A n c].toArray w (RetN (All2 IsInner (cutN ds)) w) := by
 by_cases h0 : n = 0
 ·subst h0
  refine zab T [] [] [] Tryz.func61 rfl Tryz.ntmps61 rfl (Kn.start _) ?_
  (repeat' (first | (refine gH ?_; try intro _) | (refine gS ?_ ?_ <;> intro _) | fail))
  refine zad hT rfl rfl (.tmp rfl .nil) (fun w' hk => ?_)
  exact zg0 (by unfold cutN; rw [if_pos hn.symm]; exact .nil) hk
 by_cases h6 : n ≤ 6
 ·refine zab T [] [] [allF ds nodeF, sl A 1 PE (ds.map NodeD.g)] Tryz.func61 rfl Tryz.ntmps61 rfl hB.kn ?_
  (repeat' (first | (refine gH ?_; try intro _) | (refine gS ?_ ?_ <;> intro _) | fail))
  refine cR (fun w hk => zdF A n c ds w hn (by omega) hne (.cons (zf3 (hk.rR (φ := allF ds nodeF) mE)) (.cons (zf2 (hk.rR (φ := allF ds nodeF) mE)) (.cons (hk.rR mE) .nil)))) (fun d hd => ?_)
  (repeat (refine gG ?_; try intro _))
  rename_i g1
  refine zad hT rfl rfl (.tmp rfl .nil) (fun w' hk => ?_)
  refine RetS.mk ⟨⟨some ⟨g1, 0, none⟩, 1, 1⟩, [d]⟩ ⟨⟨rfl, Nat.le_refl _, by show 1 ≤ maxLen; unfold maxLen; omega, fun h => by cases h⟩, ?_⟩ rfl hk (.cons (RS1.lit hk (cs := [d.ptr]) mE rfl) (.cons (RS1.nodes fun x hx => ?_) (.cons (RS1.head hk (cs := [d.ptr]) mE rfl) .nil)))
  ·unfold cutN; rw [if_neg (by omega), if_pos (by omega)]; exact .cons hd .nil
  ·obtain rfl := m1 hx
   exact RS1.node hk mE mE mE mE
 ·refine zab T [] [] [allF ds nodeF, sl A 1 PE (ds.map NodeD.g)] Tryz.func61 rfl Tryz.ntmps61 rfl hB.kn ?_
  refine zen (enc := PE) (L := ds.map NodeD.g) (n / 2) c mE (by rw [List.length_map]; omega) ?_
  refine zep (enc := PE) (L := ds.map NodeD.g) (n / 2) c mE (by rw [List.length_map]; omega) ?_
  rw [← List.map_take, ← List.map_drop]
  (repeat' (first | (refine gH ?_; try intro _) | (refine g_mv rfl ?_; refine cb (fun w hk => zh7 A n c w hc (by omega)) ?_) | (refine gS ?_ ?_ <;> intro _) | fail))
  refine cR (fun w hk => zdF (shA A 0 c 1) (n / 2) c (ds.take (n / 2)) w (by rw [List.length_take]; omega) (by omega) (fun d hd => hne d (List.mem_of_mem_take hd)) (.cons (zf3 (ziN (hk.rR (φ := allF ds nodeF) mE) (fun x hx => List.mem_of_mem_take hx))) (.cons (zf2 (ziN (hk.rR (φ := allF ds nodeF) mE) (fun x hx => List.mem_of_mem_take hx))) (.cons (hk.rR mE) .nil)))) (fun d hd => ?_)
  (repeat (refine gG ?_; try intro _))
  refine cR (fun w hk => zdF (shA A (n / 2) c 1) (n - n / 2) (c - n / 2) (ds.drop (n / 2)) w (by rw [List.length_drop]; omega) (by omega) (fun d hd => hne d (List.mem_of_mem_drop hd)) (.cons (zf3 (ziN (hk.rR (φ := allF ds nodeF) mE) (fun x hx => List.mem_of_mem_drop hx))) (.cons (zf2 (ziN (hk.rR (φ := allF ds nodeF) mE) (fun x hx => List.mem_of_mem_drop hx))) (.cons (hk.rR mE) .nil)))) (fun d2 hd2 => ?_)
  (repeat (refine gG ?_; try intro _))
  rename_i g1
  refine zad hT rfl rfl (.tmp rfl .nil) (fun w' hk => ?_)
  refine RetS.mk ⟨⟨some ⟨g1, 0, none⟩, 2, 2⟩, [d, d2]⟩ ⟨⟨rfl, Nat.le_refl _, by show 2 ≤ maxLen; unfold maxLen; omega, fun h => by cases h⟩, ?_⟩ rfl hk (.cons (RS1.lit hk (cs := [d.ptr, d2.ptr]) mE rfl) (.cons (RS1.nodes fun x hx => ?_) (.cons (RS1.head hk (cs := [d.ptr, d2.ptr]) mE rfl) .nil)))
  ·unfold cutN; rw [if_neg (by omega), if_neg (by omega), ← hn]; exact .cons hd (.cons hd2 .nil)
  ·rcases List.mem_cons.1 hx with rfl | hx
   ·exact RS1.node hk mE mE mE mE
   ·obtain rfl := m1 hx
    exact RS1.node hk mE mE mE mE
end Go.Proofs.YtaghmffgoomebaaGreat.Nd
