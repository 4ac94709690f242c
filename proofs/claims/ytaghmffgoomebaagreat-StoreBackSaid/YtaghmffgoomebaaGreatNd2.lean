/- Nodes as data; node.Leaf, halves, Leaves; the chapter's example. -/
import Derived.Test.YtaghmffgoomebaaGreatNd
set_option linter.unusedVariables false
set_option linter.unusedSimpArgs false
namespace Go.Proofs.YtaghmffgoomebaaGreat.Nd
open Go.RowKit Mem Gx
set_option maxRecDepth 100000
set_option maxHeartbeats 4000000
def PE : Nat → Nat → Value := fun g _ => .pointer (some ⟨g, 0, none⟩)
theorem za6 : Elt Tryz.prog 106 29 3 16 := Elt.mk' (z := .agg #[.int .u16 0, .int .u32 0, .int .u64 0]) Tryz.underlying106 kR rfl (by decide)
theorem zb7 : Elt Tryz.prog 22 31 4 24 := Elt.mk' (z := .agg #[.int .u16 0, .int .u32 0, .int .u64 0, .int .u32 0]) Tryz.underlying22 kR rfl (by decide)
theorem zaO : Elt Tryz.prog 43 26 1 4 := Elt.mk' (z := .int .u32 0) Tryz.underlying43 kR rfl (by decide)
theorem zij : Elt Tryz.prog 107 53 1 8 := Elt.mk' (z := .pointer none) Tryz.underlying107 kR rfl (by decide)
structure NodeD where
 g : Nat
 leaf : Bool
 K : SlV
 Ks : List KeyD
 V : SlV
 Vs : List Int
 C : SlV
 Cs : List Nat
 a : Int
def NodeD.ptr (d : NodeD) : Value := .pointer (some ⟨d.g, 0, none⟩)
def NodeD.fs (d : NodeD) : List Fact := [blk d.g [.bool d.leaf, d.K.v, d.V.v, d.C.v, .int .u32 d.a] 109, sl d.K.A 3 KE d.Ks, sl d.V.A 1 (IE .u32) d.Vs, sl d.C.A 1 PE d.Cs]
structure NodeD.Ok (d : NodeD) : Prop where
 K : d.K.Ok d.Ks.length
 V : d.V.Ok d.Vs.length
 C : d.C.Ok d.Cs.length
structure IsLeaf (L : List EntD) (d : NodeD) : Prop where
 ok : d.Ok
 leaf : d.leaf = true
 Ks : d.Ks = L.map (·.k)
 Vs : d.Vs = L.map (·.a)
 Cs : d.Cs = []
 vg : ∀ x, d.V.A = some x → 0 < d.Vs.length → x.block ≠ d.g
 a : d.a = 0
structure IsLeafW (L : List EntD) (d : NodeD) : Prop where
 ok : d.Ok
 leaf : d.leaf = true
 Ks : d.Ks = L.map (·.k)
 Vs : d.Vs = L.map (·.a)
 Cs : d.Cs = []
 vg : ∀ x, d.V.A = some x → 0 < d.Vs.length → x.block ≠ d.g
theorem IsLeaf.w {L : List EntD} {d : NodeD} (h : IsLeaf L d) : IsLeafW L d := ⟨h.ok, h.leaf, h.Ks, h.Vs, h.Cs, h.vg⟩
theorem apart {E : List Nat} {w0 w : World} {O R O' : List Fact} {φ ψ : Fact} (hk : Kn E w0 w O R) (hs : Sel φ O O') (hψ : ψ ∈ O') : ∀ b, φ.S b → ¬ ψ.S b := fun b => List.rel_of_pairwise_cons (hk.perm hs.perm).disO hψ b
theorem zeO (A : Option Addr) (n c : Nat) (L : List EntD) (w : World) (hn : n = L.length) (h9 : L.length ≤ 10000) (hs : Sl w A 4 EE L) :
 Calls Tryz.prog 52 [.slice A n c].toArray w (Ret (fun d => IsLeaf L d ∧ d.C = ⟨none, 0, 0⟩) NodeD.ptr NodeD.fs w) := by
 refine zab T [] [] [sl A 4 EE L] Tryz.func52 rfl Tryz.ntmps52 rfl ((Kn.start w).argR hs (by decide) (fun _ h => by cases h)) ?_
 (repeat (refine gG ?_; try intro _))
 rename_i g
 refine zbO 0 29 3 KE ?_
 refine zbO 0 26 1 (IE .u32) ?_
 refine zap (fun (q : Nat × Value × Value × (List KeyD) × (List Int)) => match q with | (j, a, b, M, W) => j ≤ L.length ∧ M = (L.take j).map (·.k) ∧ W = (L.take j).map (·.a)) (fun (q : Nat × Value × Value × (List KeyD) × (List Int)) => match q with | (j, a, b, M, W) => [(3, .pointer (some ⟨g, 0, none⟩)), (8, .slice A n c), (9, .int .i64 n), (10, .int .i64 j)]) (fun (q : Nat × Value × Value × (List KeyD) × (List Int)) => match q with | (j, a, b, M, W) => [own 0 29 3 a KE M, own 0 26 1 b (IE .u32) W, blk g [.bool true, a, b, .slice none 0 0, .int .u32 0] 109]) (fun (q : Nat × Value × Value × (List KeyD) × (List Int)) => match q with | (j, a, b, M, W) => [sl A 4 EE L]) (fun (q : Nat × Value × Value × (List KeyD) × (List Int)) => match q with | (j, a, b, M, W) => L.length - j) (0, .slice none 0 0, .slice none 0 0, [], []) rfl ⟨Nat.zero_le _, rfl, rfl⟩ fS sA sS ?_
 rintro ⟨j, a, b, M, W⟩ hI
 replace hI : j ≤ L.length ∧ M = (L.take j).map (·.k) ∧ W = (L.take j).map (·.a) := hI
 change GK _ _ [(3, .pointer (some ⟨g, 0, none⟩)), (8, .slice A n c), (9, .int .i64 n), (10, .int .i64 j)] [own 0 29 3 a KE M, own 0 26 1 b (IE .u32) W, blk g [.bool true, a, b, .slice none 0 0, .int .u32 0] 109] [sl A 4 EE L]
 obtain ⟨hj, hM, hW⟩ := hI
 have hMl : M.length = j := by rw [hM, List.length_map, List.length_take]; omega
 have hWl : W.length = j := by rw [hW, List.length_map, List.length_take]; omega
 (repeat (refine gG ?_; try intro _))
 refine zaJ rfl rfl (zaH _) (fun h1 => ?_) (fun h1 => ?_)
 ·refine zar (enc := EE) (L := L) j mE (by omega) (by decide) (fun b0 off y eA hy => ?_)
  subst eA
  (repeat (refine gG ?_; try intro _))
  rename_i g5
  refine zas [0] (Cut _ (fun p : Value × Value => [(3, .pointer (some ⟨g, 0, none⟩)), (8, .slice (some ⟨b0, off, none⟩) n c), (9, .int .i64 n), (10, .int .i64 j)]) (fun p => [own 0 29 3 p.1 KE (M ++ [y.k]), own 0 26 1 p.2 (IE .u32) (W ++ [y.a]), blk g [.bool true, p.1, p.2, .slice none 0 0, .int .u32 0] 109]) (fun _ => [sl (some ⟨b0, off, none⟩) 4 EE L])) rfl rfl kR ?_ (zaD fun p => ?_)
  ·skip
   refine gY hT 0 ?_
   refine gY hT 1 ?_
   refine gY hT 2 ?_
   refine gY hT 3 ?_
   refine gY hT 4 ?_
   refine gY hT 6 ?_
   refine gW hT 7 ?_
   refine gY hT 10 ?_
   refine gY hT 11 ?_
   refine gY hT 12 ?_
   refine gY hT 14 ?_
   refine gW hT 15 ?_
   refine zjm dK ?_
   refine gN ?_
   refine gN ?_
   refine gN ?_
   refine gN ?_
   refine gN ?_
   refine zdJ rfl rfl ?_ ?_
   ·refine zaC rfl (zaf hT rfl rfl mE rfl rfl) ?_
    refine ⟨sF, ?_⟩
    refine gA3 8 13 16 ?_ ?_ ?_
    ·(refine zaa (len := 1) rfl hT rfl rfl rfl rfl rfl rfl rfl rfl ?_; intro g6)
     refine ⟨sF, ?_⟩
     refine gA3 9 13 16 ?_ ?_ ?_
     ·refine zac rfl [y.k] rfl rfl rfl rfl za6 uD (zah mE rfl) rfl (by intro x j; rcases j with _ | _ | _ | j <;> rfl) sM sN (Nat.zero_le _) (fun v1 => ?_)
      refine ⟨sF, ?_⟩
      refine gA2 13 16 ?_ ?_
      ·refine zaC rfl (zaf hT rfl rfl mE rfl rfl) ?_
       refine ⟨sF, ?_⟩
       refine gP 16 ?_
       (refine zaa (len := 1) rfl hT rfl rfl rfl rfl rfl rfl rfl rfl ?_; intro g7)
       refine ⟨sF, ?_⟩
       refine gP 17 ?_
       refine zac rfl [y.a] rfl rfl rfl rfl zaO uD (zah mE rfl) rfl (by intro x j; rfl) sM sN (Nat.zero_le _) (fun v2 => ?_)
       refine ⟨sF, ?_⟩
       (refine zai v1 mE (fun A1 c1 hv1 _ _ _ => ?_); refine zai v2 mE (fun A2 c2 hv2 _ _ _ => ?_); subst hv1; subst hv2)
       refine gY hT 18 ?_
       refine gY hT 19 ?_
       first | refine gO 20 ?_ | (refine gX 20 ?_; intro _)
       refine gY hT 21 ?_
       refine gY hT 22 ?_
       first | refine gO 23 ?_ | (refine gX 23 ?_; intro _)
       refine zak dK ?_
       exact ⟨(.slice A1 (M ++ [y.k]).length c1, .slice A2 (W ++ [y.a]).length c2), fS, sA, sS⟩
      ·(refine zaa (len := 1) rfl hT rfl rfl rfl rfl rfl rfl rfl rfl ?_; intro g7)
       refine ⟨sF, ?_⟩
       refine gP 13 ?_
       refine zaC rfl (zaf hT rfl rfl mE rfl rfl) ?_
       refine ⟨sF, ?_⟩
       refine gP 17 ?_
       refine zac rfl [y.a] rfl rfl rfl rfl zaO uD (zah mE rfl) rfl (by intro x j; rfl) sM sN (Nat.zero_le _) (fun v2 => ?_)
       refine ⟨sF, ?_⟩
       (refine zai v1 mE (fun A1 c1 hv1 _ _ _ => ?_); refine zai v2 mE (fun A2 c2 hv2 _ _ _ => ?_); subst hv1; subst hv2)
       refine gY hT 18 ?_
       refine gY hT 19 ?_
       first | refine gO 20 ?_ | (refine gX 20 ?_; intro _)
       refine gY hT 21 ?_
       refine gY hT 22 ?_
       first | refine gO 23 ?_ | (refine gX 23 ?_; intro _)
       refine zak dK ?_
       exact ⟨(.slice A1 (M ++ [y.k]).length c1, .slice A2 (W ++ [y.a]).length c2), fS, sA, sS⟩
     ·refine zaC rfl (zaf hT rfl rfl mE rfl rfl) ?_
      refine ⟨sF, ?_⟩
      refine gA2 9 16 ?_ ?_
      ·refine zac rfl [y.k] rfl rfl rfl rfl za6 uD (zah mE rfl) rfl (by intro x j; rcases j with _ | _ | _ | j <;> rfl) sM sN (Nat.zero_le _) (fun v1 => ?_)
       refine ⟨sF, ?_⟩
       refine gP 16 ?_
       (refine zaa (len := 1) rfl hT rfl rfl rfl rfl rfl rfl rfl rfl ?_; intro g7)
       refine ⟨sF, ?_⟩
       refine gP 17 ?_
       refine zac rfl [y.a] rfl rfl rfl rfl zaO uD (zah mE rfl) rfl (by intro x j; rfl) sM sN (Nat.zero_le _) (fun v2 => ?_)
       refine ⟨sF, ?_⟩
       (refine zai v1 mE (fun A1 c1 hv1 _ _ _ => ?_); refine zai v2 mE (fun A2 c2 hv2 _ _ _ => ?_); subst hv1; subst hv2)
       refine gY hT 18 ?_
       refine gY hT 19 ?_
       first | refine gO 20 ?_ | (refine gX 20 ?_; intro _)
       refine gY hT 21 ?_
       refine gY hT 22 ?_
       first | refine gO 23 ?_ | (refine gX 23 ?_; intro _)
       refine zak dK ?_
       exact ⟨(.slice A1 (M ++ [y.k]).length c1, .slice A2 (W ++ [y.a]).length c2), fS, sA, sS⟩
      ·(refine zaa (len := 1) rfl hT rfl rfl rfl rfl rfl rfl rfl rfl ?_; intro g7)
       refine ⟨sF, ?_⟩
       refine gP 9 ?_
       refine zac rfl [y.k] rfl rfl rfl rfl za6 uD (zah mE rfl) rfl (by intro x j; rcases j with _ | _ | _ | j <;> rfl) sM sN (Nat.zero_le _) (fun v1 => ?_)
       refine ⟨sF, ?_⟩
       refine gP 17 ?_
       refine zac rfl [y.a] rfl rfl rfl rfl zaO uD (zah mE rfl) rfl (by intro x j; rfl) sM sN (Nat.zero_le _) (fun v2 => ?_)
       refine ⟨sF, ?_⟩
       (refine zai v1 mE (fun A1 c1 hv1 _ _ _ => ?_); refine zai v2 mE (fun A2 c2 hv2 _ _ _ => ?_); subst hv1; subst hv2)
       refine gY hT 18 ?_
       refine gY hT 19 ?_
       first | refine gO 20 ?_ | (refine gX 20 ?_; intro _)
       refine gY hT 21 ?_
       refine gY hT 22 ?_
       first | refine gO 23 ?_ | (refine gX 23 ?_; intro _)
       refine zak dK ?_
       exact ⟨(.slice A1 (M ++ [y.k]).length c1, .slice A2 (W ++ [y.a]).length c2), fS, sA, sS⟩
     ·(refine zaa (len := 1) rfl hT rfl rfl rfl rfl rfl rfl rfl rfl ?_; intro g7)
      refine ⟨sF, ?_⟩
      refine gA2 9 13 ?_ ?_
      ·refine zac rfl [y.k] rfl rfl rfl rfl za6 uD (zah mE rfl) rfl (by intro x j; rcases j with _ | _ | _ | j <;> rfl) sM sN (Nat.zero_le _) (fun v1 => ?_)
       refine ⟨sF, ?_⟩
       refine gP 13 ?_
       refine zaC rfl (zaf hT rfl rfl mE rfl rfl) ?_
       refine ⟨sF, ?_⟩
       refine gP 17 ?_
       refine zac rfl [y.a] rfl rfl rfl rfl zaO uD (zah mE rfl) rfl (by intro x j; rfl) sM sN (Nat.zero_le _) (fun v2 => ?_)
       refine ⟨sF, ?_⟩
       (refine zai v1 mE (fun A1 c1 hv1 _ _ _ => ?_); refine zai v2 mE (fun A2 c2 hv2 _ _ _ => ?_); subst hv1; subst hv2)
       refine gY hT 18 ?_
       refine gY hT 19 ?_
       first | refine gO 20 ?_ | (refine gX 20 ?_; intro _)
       refine gY hT 21 ?_
       refine gY hT 22 ?_
       first | refine gO 23 ?_ | (refine gX 23 ?_; intro _)
       refine zak dK ?_
       exact ⟨(.slice A1 (M ++ [y.k]).length c1, .slice A2 (W ++ [y.a]).length c2), fS, sA, sS⟩
      ·refine zaC rfl (zaf hT rfl rfl mE rfl rfl) ?_
       refine ⟨sF, ?_⟩
       refine gP 9 ?_
       refine zac rfl [y.k] rfl rfl rfl rfl za6 uD (zah mE rfl) rfl (by intro x j; rcases j with _ | _ | _ | j <;> rfl) sM sN (Nat.zero_le _) (fun v1 => ?_)
       refine ⟨sF, ?_⟩
       refine gP 17 ?_
       refine zac rfl [y.a] rfl rfl rfl rfl zaO uD (zah mE rfl) rfl (by intro x j; rfl) sM sN (Nat.zero_le _) (fun v2 => ?_)
       refine ⟨sF, ?_⟩
       (refine zai v1 mE (fun A1 c1 hv1 _ _ _ => ?_); refine zai v2 mE (fun A2 c2 hv2 _ _ _ => ?_); subst hv1; subst hv2)
       refine gY hT 18 ?_
       refine gY hT 19 ?_
       first | refine gO 20 ?_ | (refine gX 20 ?_; intro _)
       refine gY hT 21 ?_
       refine gY hT 22 ?_
       first | refine gO 23 ?_ | (refine gX 23 ?_; intro _)
       refine zak dK ?_
       exact ⟨(.slice A1 (M ++ [y.k]).length c1, .slice A2 (W ++ [y.a]).length c2), fS, sA, sS⟩
    ·refine zaC rfl (zaf hT rfl rfl mE rfl rfl) ?_
     refine ⟨sF, ?_⟩
     refine gA2 8 16 ?_ ?_
     ·(refine zaa (len := 1) rfl hT rfl rfl rfl rfl rfl rfl rfl rfl ?_; intro g6)
      refine ⟨sF, ?_⟩
      refine gA2 9 16 ?_ ?_
      ·refine zac rfl [y.k] rfl rfl rfl rfl za6 uD (zah mE rfl) rfl (by intro x j; rcases j with _ | _ | _ | j <;> rfl) sM sN (Nat.zero_le _) (fun v1 => ?_)
       refine ⟨sF, ?_⟩
       refine gP 16 ?_
       (refine zaa (len := 1) rfl hT rfl rfl rfl rfl rfl rfl rfl rfl ?_; intro g7)
       refine ⟨sF, ?_⟩
       refine gP 17 ?_
       refine zac rfl [y.a] rfl rfl rfl rfl zaO uD (zah mE rfl) rfl (by intro x j; rfl) sM sN (Nat.zero_le _) (fun v2 => ?_)
       refine ⟨sF, ?_⟩
       (refine zai v1 mE (fun A1 c1 hv1 _ _ _ => ?_); refine zai v2 mE (fun A2 c2 hv2 _ _ _ => ?_); subst hv1; subst hv2)
       refine gY hT 18 ?_
       refine gY hT 19 ?_
       first | refine gO 20 ?_ | (refine gX 20 ?_; intro _)
       refine gY hT 21 ?_
       refine gY hT 22 ?_
       first | refine gO 23 ?_ | (refine gX 23 ?_; intro _)
       refine zak dK ?_
       exact ⟨(.slice A1 (M ++ [y.k]).length c1, .slice A2 (W ++ [y.a]).length c2), fS, sA, sS⟩
      ·(refine zaa (len := 1) rfl hT rfl rfl rfl rfl rfl rfl rfl rfl ?_; intro g7)
       refine ⟨sF, ?_⟩
       refine gP 9 ?_
       refine zac rfl [y.k] rfl rfl rfl rfl za6 uD (zah mE rfl) rfl (by intro x j; rcases j with _ | _ | _ | j <;> rfl) sM sN (Nat.zero_le _) (fun v1 => ?_)
       refine ⟨sF, ?_⟩
       refine gP 17 ?_
       refine zac rfl [y.a] rfl rfl rfl rfl zaO uD (zah mE rfl) rfl (by intro x j; rfl) sM sN (Nat.zero_le _) (fun v2 => ?_)
       refine ⟨sF, ?_⟩
       (refine zai v1 mE (fun A1 c1 hv1 _ _ _ => ?_); refine zai v2 mE (fun A2 c2 hv2 _ _ _ => ?_); subst hv1; subst hv2)
       refine gY hT 18 ?_
       refine gY hT 19 ?_
       first | refine gO 20 ?_ | (refine gX 20 ?_; intro _)
       refine gY hT 21 ?_
       refine gY hT 22 ?_
       first | refine gO 23 ?_ | (refine gX 23 ?_; intro _)
       refine zak dK ?_
       exact ⟨(.slice A1 (M ++ [y.k]).length c1, .slice A2 (W ++ [y.a]).length c2), fS, sA, sS⟩
     ·(refine zaa (len := 1) rfl hT rfl rfl rfl rfl rfl rfl rfl rfl ?_; intro g7)
      refine ⟨sF, ?_⟩
      refine gP 8 ?_
      (refine zaa (len := 1) rfl hT rfl rfl rfl rfl rfl rfl rfl rfl ?_; intro g6)
      refine ⟨sF, ?_⟩
      refine gP 9 ?_
      refine zac rfl [y.k] rfl rfl rfl rfl za6 uD (zah mE rfl) rfl (by intro x j; rcases j with _ | _ | _ | j <;> rfl) sM sN (Nat.zero_le _) (fun v1 => ?_)
      refine ⟨sF, ?_⟩
      refine gP 17 ?_
      refine zac rfl [y.a] rfl rfl rfl rfl zaO uD (zah mE rfl) rfl (by intro x j; rfl) sM sN (Nat.zero_le _) (fun v2 => ?_)
      refine ⟨sF, ?_⟩
      (refine zai v1 mE (fun A1 c1 hv1 _ _ _ => ?_); refine zai v2 mE (fun A2 c2 hv2 _ _ _ => ?_); subst hv1; subst hv2)
      refine gY hT 18 ?_
      refine gY hT 19 ?_
      first | refine gO 20 ?_ | (refine gX 20 ?_; intro _)
      refine gY hT 21 ?_
      refine gY hT 22 ?_
      first | refine gO 23 ?_ | (refine gX 23 ?_; intro _)
      refine zak dK ?_
      exact ⟨(.slice A1 (M ++ [y.k]).length c1, .slice A2 (W ++ [y.a]).length c2), fS, sA, sS⟩
    ·(refine zaa (len := 1) rfl hT rfl rfl rfl rfl rfl rfl rfl rfl ?_; intro g7)
     refine ⟨sF, ?_⟩
     refine gA2 8 13 ?_ ?_
     ·(refine zaa (len := 1) rfl hT rfl rfl rfl rfl rfl rfl rfl rfl ?_; intro g6)
      refine ⟨sF, ?_⟩
      refine gA2 9 13 ?_ ?_
      ·refine zac rfl [y.k] rfl rfl rfl rfl za6 uD (zah mE rfl) rfl (by intro x j; rcases j with _ | _ | _ | j <;> rfl) sM sN (Nat.zero_le _) (fun v1 => ?_)
       refine ⟨sF, ?_⟩
       refine gP 13 ?_
       refine zaC rfl (zaf hT rfl rfl mE rfl rfl) ?_
       refine ⟨sF, ?_⟩
       refine gP 17 ?_
       refine zac rfl [y.a] rfl rfl rfl rfl zaO uD (zah mE rfl) rfl (by intro x j; rfl) sM sN (Nat.zero_le _) (fun v2 => ?_)
       refine ⟨sF, ?_⟩
       (refine zai v1 mE (fun A1 c1 hv1 _ _ _ => ?_); refine zai v2 mE (fun A2 c2 hv2 _ _ _ => ?_); subst hv1; subst hv2)
       refine gY hT 18 ?_
       refine gY hT 19 ?_
       first | refine gO 20 ?_ | (refine gX 20 ?_; intro _)
       refine gY hT 21 ?_
       refine gY hT 22 ?_
       first | refine gO 23 ?_ | (refine gX 23 ?_; intro _)
       refine zak dK ?_
       exact ⟨(.slice A1 (M ++ [y.k]).length c1, .slice A2 (W ++ [y.a]).length c2), fS, sA, sS⟩
      ·refine zaC rfl (zaf hT rfl rfl mE rfl rfl) ?_
       refine ⟨sF, ?_⟩
       refine gP 9 ?_
       refine zac rfl [y.k] rfl rfl rfl rfl za6 uD (zah mE rfl) rfl (by intro x j; rcases j with _ | _ | _ | j <;> rfl) sM sN (Nat.zero_le _) (fun v1 => ?_)
       refine ⟨sF, ?_⟩
       refine gP 17 ?_
       refine zac rfl [y.a] rfl rfl rfl rfl zaO uD (zah mE rfl) rfl (by intro x j; rfl) sM sN (Nat.zero_le _) (fun v2 => ?_)
       refine ⟨sF, ?_⟩
       (refine zai v1 mE (fun A1 c1 hv1 _ _ _ => ?_); refine zai v2 mE (fun A2 c2 hv2 _ _ _ => ?_); subst hv1; subst hv2)
       refine gY hT 18 ?_
       refine gY hT 19 ?_
       first | refine gO 20 ?_ | (refine gX 20 ?_; intro _)
       refine gY hT 21 ?_
       refine gY hT 22 ?_
       first | refine gO 23 ?_ | (refine gX 23 ?_; intro _)
       refine zak dK ?_
       exact ⟨(.slice A1 (M ++ [y.k]).length c1, .slice A2 (W ++ [y.a]).length c2), fS, sA, sS⟩
     ·refine zaC rfl (zaf hT rfl rfl mE rfl rfl) ?_
      refine ⟨sF, ?_⟩
      refine gP 8 ?_
      (refine zaa (len := 1) rfl hT rfl rfl rfl rfl rfl rfl rfl rfl ?_; intro g6)
      refine ⟨sF, ?_⟩
      refine gP 9 ?_
      refine zac rfl [y.k] rfl rfl rfl rfl za6 uD (zah mE rfl) rfl (by intro x j; rcases j with _ | _ | _ | j <;> rfl) sM sN (Nat.zero_le _) (fun v1 => ?_)
      refine ⟨sF, ?_⟩
      refine gP 17 ?_
      refine zac rfl [y.a] rfl rfl rfl rfl zaO uD (zah mE rfl) rfl (by intro x j; rfl) sM sN (Nat.zero_le _) (fun v2 => ?_)
      refine ⟨sF, ?_⟩
      (refine zai v1 mE (fun A1 c1 hv1 _ _ _ => ?_); refine zai v2 mE (fun A2 c2 hv2 _ _ _ => ?_); subst hv1; subst hv2)
      refine gY hT 18 ?_
      refine gY hT 19 ?_
      first | refine gO 20 ?_ | (refine gX 20 ?_; intro _)
      refine gY hT 21 ?_
      refine gY hT 22 ?_
      first | refine gO 23 ?_ | (refine gX 23 ?_; intro _)
      refine zak dK ?_
      exact ⟨(.slice A1 (M ++ [y.k]).length c1, .slice A2 (W ++ [y.a]).length c2), fS, sA, sS⟩
   refine gN ?_
   refine gN ?_
   refine zdJ rfl rfl ?_ ?_
   ·(refine zaa (len := 1) rfl hT rfl rfl rfl rfl rfl rfl rfl rfl ?_; intro g6)
    refine ⟨sF, ?_⟩
    refine gA3 5 13 16 ?_ ?_ ?_
    ·refine zaC rfl (zaf hT rfl rfl mE rfl rfl) ?_
     refine ⟨sF, ?_⟩
     refine gA3 9 13 16 ?_ ?_ ?_
     ·refine zac rfl [y.k] rfl rfl rfl rfl za6 uD (zah mE rfl) rfl (by intro x j; rcases j with _ | _ | _ | j <;> rfl) sM sN (Nat.zero_le _) (fun v1 => ?_)
      refine ⟨sF, ?_⟩
      refine gA2 13 16 ?_ ?_
      ·refine zaC rfl (zaf hT rfl rfl mE rfl rfl) ?_
       refine ⟨sF, ?_⟩
       refine gP 16 ?_
       (refine zaa (len := 1) rfl hT rfl rfl rfl rfl rfl rfl rfl rfl ?_; intro g7)
       refine ⟨sF, ?_⟩
       refine gP 17 ?_
       refine zac rfl [y.a] rfl rfl rfl rfl zaO uD (zah mE rfl) rfl (by intro x j; rfl) sM sN (Nat.zero_le _) (fun v2 => ?_)
       refine ⟨sF, ?_⟩
       (refine zai v1 mE (fun A1 c1 hv1 _ _ _ => ?_); refine zai v2 mE (fun A2 c2 hv2 _ _ _ => ?_); subst hv1; subst hv2)
       refine gY hT 18 ?_
       refine gY hT 19 ?_
       first | refine gO 20 ?_ | (refine gX 20 ?_; intro _)
       refine gY hT 21 ?_
       refine gY hT 22 ?_
       first | refine gO 23 ?_ | (refine gX 23 ?_; intro _)
       refine zak dK ?_
       exact ⟨(.slice A1 (M ++ [y.k]).length c1, .slice A2 (W ++ [y.a]).length c2), fS, sA, sS⟩
      ·(refine zaa (len := 1) rfl hT rfl rfl rfl rfl rfl rfl rfl rfl ?_; intro g7)
       refine ⟨sF, ?_⟩
       refine gP 13 ?_
       refine zaC rfl (zaf hT rfl rfl mE rfl rfl) ?_
       refine ⟨sF, ?_⟩
       refine gP 17 ?_
       refine zac rfl [y.a] rfl rfl rfl rfl zaO uD (zah mE rfl) rfl (by intro x j; rfl) sM sN (Nat.zero_le _) (fun v2 => ?_)
       refine ⟨sF, ?_⟩
       (refine zai v1 mE (fun A1 c1 hv1 _ _ _ => ?_); refine zai v2 mE (fun A2 c2 hv2 _ _ _ => ?_); subst hv1; subst hv2)
       refine gY hT 18 ?_
       refine gY hT 19 ?_
       first | refine gO 20 ?_ | (refine gX 20 ?_; intro _)
       refine gY hT 21 ?_
       refine gY hT 22 ?_
       first | refine gO 23 ?_ | (refine gX 23 ?_; intro _)
       refine zak dK ?_
       exact ⟨(.slice A1 (M ++ [y.k]).length c1, .slice A2 (W ++ [y.a]).length c2), fS, sA, sS⟩
     ·refine zaC rfl (zaf hT rfl rfl mE rfl rfl) ?_
      refine ⟨sF, ?_⟩
      refine gA2 9 16 ?_ ?_
      ·refine zac rfl [y.k] rfl rfl rfl rfl za6 uD (zah mE rfl) rfl (by intro x j; rcases j with _ | _ | _ | j <;> rfl) sM sN (Nat.zero_le _) (fun v1 => ?_)
       refine ⟨sF, ?_⟩
       refine gP 16 ?_
       (refine zaa (len := 1) rfl hT rfl rfl rfl rfl rfl rfl rfl rfl ?_; intro g7)
       refine ⟨sF, ?_⟩
       refine gP 17 ?_
       refine zac rfl [y.a] rfl rfl rfl rfl zaO uD (zah mE rfl) rfl (by intro x j; rfl) sM sN (Nat.zero_le _) (fun v2 => ?_)
       refine ⟨sF, ?_⟩
       (refine zai v1 mE (fun A1 c1 hv1 _ _ _ => ?_); refine zai v2 mE (fun A2 c2 hv2 _ _ _ => ?_); subst hv1; subst hv2)
       refine gY hT 18 ?_
       refine gY hT 19 ?_
       first | refine gO 20 ?_ | (refine gX 20 ?_; intro _)
       refine gY hT 21 ?_
       refine gY hT 22 ?_
       first | refine gO 23 ?_ | (refine gX 23 ?_; intro _)
       refine zak dK ?_
       exact ⟨(.slice A1 (M ++ [y.k]).length c1, .slice A2 (W ++ [y.a]).length c2), fS, sA, sS⟩
      ·(refine zaa (len := 1) rfl hT rfl rfl rfl rfl rfl rfl rfl rfl ?_; intro g7)
       refine ⟨sF, ?_⟩
       refine gP 9 ?_
       refine zac rfl [y.k] rfl rfl rfl rfl za6 uD (zah mE rfl) rfl (by intro x j; rcases j with _ | _ | _ | j <;> rfl) sM sN (Nat.zero_le _) (fun v1 => ?_)
       refine ⟨sF, ?_⟩
       refine gP 17 ?_
       refine zac rfl [y.a] rfl rfl rfl rfl zaO uD (zah mE rfl) rfl (by intro x j; rfl) sM sN (Nat.zero_le _) (fun v2 => ?_)
       refine ⟨sF, ?_⟩
       (refine zai v1 mE (fun A1 c1 hv1 _ _ _ => ?_); refine zai v2 mE (fun A2 c2 hv2 _ _ _ => ?_); subst hv1; subst hv2)
       refine gY hT 18 ?_
       refine gY hT 19 ?_
       first | refine gO 20 ?_ | (refine gX 20 ?_; intro _)
       refine gY hT 21 ?_
       refine gY hT 22 ?_
       first | refine gO 23 ?_ | (refine gX 23 ?_; intro _)
       refine zak dK ?_
       exact ⟨(.slice A1 (M ++ [y.k]).length c1, .slice A2 (W ++ [y.a]).length c2), fS, sA, sS⟩
     ·(refine zaa (len := 1) rfl hT rfl rfl rfl rfl rfl rfl rfl rfl ?_; intro g7)
      refine ⟨sF, ?_⟩
      refine gA2 9 13 ?_ ?_
      ·refine zac rfl [y.k] rfl rfl rfl rfl za6 uD (zah mE rfl) rfl (by intro x j; rcases j with _ | _ | _ | j <;> rfl) sM sN (Nat.zero_le _) (fun v1 => ?_)
       refine ⟨sF, ?_⟩
       refine gP 13 ?_
       refine zaC rfl (zaf hT rfl rfl mE rfl rfl) ?_
       refine ⟨sF, ?_⟩
       refine gP 17 ?_
       refine zac rfl [y.a] rfl rfl rfl rfl zaO uD (zah mE rfl) rfl (by intro x j; rfl) sM sN (Nat.zero_le _) (fun v2 => ?_)
       refine ⟨sF, ?_⟩
       (refine zai v1 mE (fun A1 c1 hv1 _ _ _ => ?_); refine zai v2 mE (fun A2 c2 hv2 _ _ _ => ?_); subst hv1; subst hv2)
       refine gY hT 18 ?_
       refine gY hT 19 ?_
       first | refine gO 20 ?_ | (refine gX 20 ?_; intro _)
       refine gY hT 21 ?_
       refine gY hT 22 ?_
       first | refine gO 23 ?_ | (refine gX 23 ?_; intro _)
       refine zak dK ?_
       exact ⟨(.slice A1 (M ++ [y.k]).length c1, .slice A2 (W ++ [y.a]).length c2), fS, sA, sS⟩
      ·refine zaC rfl (zaf hT rfl rfl mE rfl rfl) ?_
       refine ⟨sF, ?_⟩
       refine gP 9 ?_
       refine zac rfl [y.k] rfl rfl rfl rfl za6 uD (zah mE rfl) rfl (by intro x j; rcases j with _ | _ | _ | j <;> rfl) sM sN (Nat.zero_le _) (fun v1 => ?_)
       refine ⟨sF, ?_⟩
       refine gP 17 ?_
       refine zac rfl [y.a] rfl rfl rfl rfl zaO uD (zah mE rfl) rfl (by intro x j; rfl) sM sN (Nat.zero_le _) (fun v2 => ?_)
       refine ⟨sF, ?_⟩
       (refine zai v1 mE (fun A1 c1 hv1 _ _ _ => ?_); refine zai v2 mE (fun A2 c2 hv2 _ _ _ => ?_); subst hv1; subst hv2)
       refine gY hT 18 ?_
       refine gY hT 19 ?_
       first | refine gO 20 ?_ | (refine gX 20 ?_; intro _)
       refine gY hT 21 ?_
       refine gY hT 22 ?_
       first | refine gO 23 ?_ | (refine gX 23 ?_; intro _)
       refine zak dK ?_
       exact ⟨(.slice A1 (M ++ [y.k]).length c1, .slice A2 (W ++ [y.a]).length c2), fS, sA, sS⟩
    ·refine zaC rfl (zaf hT rfl rfl mE rfl rfl) ?_
     refine ⟨sF, ?_⟩
     refine gA2 5 16 ?_ ?_
     ·refine zaC rfl (zaf hT rfl rfl mE rfl rfl) ?_
      refine ⟨sF, ?_⟩
      refine gA2 9 16 ?_ ?_
      ·refine zac rfl [y.k] rfl rfl rfl rfl za6 uD (zah mE rfl) rfl (by intro x j; rcases j with _ | _ | _ | j <;> rfl) sM sN (Nat.zero_le _) (fun v1 => ?_)
       refine ⟨sF, ?_⟩
       refine gP 16 ?_
       (refine zaa (len := 1) rfl hT rfl rfl rfl rfl rfl rfl rfl rfl ?_; intro g7)
       refine ⟨sF, ?_⟩
       refine gP 17 ?_
       refine zac rfl [y.a] rfl rfl rfl rfl zaO uD (zah mE rfl) rfl (by intro x j; rfl) sM sN (Nat.zero_le _) (fun v2 => ?_)
       refine ⟨sF, ?_⟩
       (refine zai v1 mE (fun A1 c1 hv1 _ _ _ => ?_); refine zai v2 mE (fun A2 c2 hv2 _ _ _ => ?_); subst hv1; subst hv2)
       refine gY hT 18 ?_
       refine gY hT 19 ?_
       first | refine gO 20 ?_ | (refine gX 20 ?_; intro _)
       refine gY hT 21 ?_
       refine gY hT 22 ?_
       first | refine gO 23 ?_ | (refine gX 23 ?_; intro _)
       refine zak dK ?_
       exact ⟨(.slice A1 (M ++ [y.k]).length c1, .slice A2 (W ++ [y.a]).length c2), fS, sA, sS⟩
      ·(refine zaa (len := 1) rfl hT rfl rfl rfl rfl rfl rfl rfl rfl ?_; intro g7)
       refine ⟨sF, ?_⟩
       refine gP 9 ?_
       refine zac rfl [y.k] rfl rfl rfl rfl za6 uD (zah mE rfl) rfl (by intro x j; rcases j with _ | _ | _ | j <;> rfl) sM sN (Nat.zero_le _) (fun v1 => ?_)
       refine ⟨sF, ?_⟩
       refine gP 17 ?_
       refine zac rfl [y.a] rfl rfl rfl rfl zaO uD (zah mE rfl) rfl (by intro x j; rfl) sM sN (Nat.zero_le _) (fun v2 => ?_)
       refine ⟨sF, ?_⟩
       (refine zai v1 mE (fun A1 c1 hv1 _ _ _ => ?_); refine zai v2 mE (fun A2 c2 hv2 _ _ _ => ?_); subst hv1; subst hv2)
       refine gY hT 18 ?_
       refine gY hT 19 ?_
       first | refine gO 20 ?_ | (refine gX 20 ?_; intro _)
       refine gY hT 21 ?_
       refine gY hT 22 ?_
       first | refine gO 23 ?_ | (refine gX 23 ?_; intro _)
       refine zak dK ?_
       exact ⟨(.slice A1 (M ++ [y.k]).length c1, .slice A2 (W ++ [y.a]).length c2), fS, sA, sS⟩
     ·(refine zaa (len := 1) rfl hT rfl rfl rfl rfl rfl rfl rfl rfl ?_; intro g7)
      refine ⟨sF, ?_⟩
      refine gP 5 ?_
      refine zaC rfl (zaf hT rfl rfl mE rfl rfl) ?_
      refine ⟨sF, ?_⟩
      refine gP 9 ?_
      refine zac rfl [y.k] rfl rfl rfl rfl za6 uD (zah mE rfl) rfl (by intro x j; rcases j with _ | _ | _ | j <;> rfl) sM sN (Nat.zero_le _) (fun v1 => ?_)
      refine ⟨sF, ?_⟩
      refine gP 17 ?_
      refine zac rfl [y.a] rfl rfl rfl rfl zaO uD (zah mE rfl) rfl (by intro x j; rfl) sM sN (Nat.zero_le _) (fun v2 => ?_)
      refine ⟨sF, ?_⟩
      (refine zai v1 mE (fun A1 c1 hv1 _ _ _ => ?_); refine zai v2 mE (fun A2 c2 hv2 _ _ _ => ?_); subst hv1; subst hv2)
      refine gY hT 18 ?_
      refine gY hT 19 ?_
      first | refine gO 20 ?_ | (refine gX 20 ?_; intro _)
      refine gY hT 21 ?_
      refine gY hT 22 ?_
      first | refine gO 23 ?_ | (refine gX 23 ?_; intro _)
      refine zak dK ?_
      exact ⟨(.slice A1 (M ++ [y.k]).length c1, .slice A2 (W ++ [y.a]).length c2), fS, sA, sS⟩
    ·(refine zaa (len := 1) rfl hT rfl rfl rfl rfl rfl rfl rfl rfl ?_; intro g7)
     refine ⟨sF, ?_⟩
     refine gA2 5 13 ?_ ?_
     ·refine zaC rfl (zaf hT rfl rfl mE rfl rfl) ?_
      refine ⟨sF, ?_⟩
      refine gA2 9 13 ?_ ?_
      ·refine zac rfl [y.k] rfl rfl rfl rfl za6 uD (zah mE rfl) rfl (by intro x j; rcases j with _ | _ | _ | j <;> rfl) sM sN (Nat.zero_le _) (fun v1 => ?_)
       refine ⟨sF, ?_⟩
       refine gP 13 ?_
       refine zaC rfl (zaf hT rfl rfl mE rfl rfl) ?_
       refine ⟨sF, ?_⟩
       refine gP 17 ?_
       refine zac rfl [y.a] rfl rfl rfl rfl zaO uD (zah mE rfl) rfl (by intro x j; rfl) sM sN (Nat.zero_le _) (fun v2 => ?_)
       refine ⟨sF, ?_⟩
       (refine zai v1 mE (fun A1 c1 hv1 _ _ _ => ?_); refine zai v2 mE (fun A2 c2 hv2 _ _ _ => ?_); subst hv1; subst hv2)
       refine gY hT 18 ?_
       refine gY hT 19 ?_
       first | refine gO 20 ?_ | (refine gX 20 ?_; intro _)
       refine gY hT 21 ?_
       refine gY hT 22 ?_
       first | refine gO 23 ?_ | (refine gX 23 ?_; intro _)
       refine zak dK ?_
       exact ⟨(.slice A1 (M ++ [y.k]).length c1, .slice A2 (W ++ [y.a]).length c2), fS, sA, sS⟩
      ·refine zaC rfl (zaf hT rfl rfl mE rfl rfl) ?_
       refine ⟨sF, ?_⟩
       refine gP 9 ?_
       refine zac rfl [y.k] rfl rfl rfl rfl za6 uD (zah mE rfl) rfl (by intro x j; rcases j with _ | _ | _ | j <;> rfl) sM sN (Nat.zero_le _) (fun v1 => ?_)
       refine ⟨sF, ?_⟩
       refine gP 17 ?_
       refine zac rfl [y.a] rfl rfl rfl rfl zaO uD (zah mE rfl) rfl (by intro x j; rfl) sM sN (Nat.zero_le _) (fun v2 => ?_)
       refine ⟨sF, ?_⟩
       (refine zai v1 mE (fun A1 c1 hv1 _ _ _ => ?_); refine zai v2 mE (fun A2 c2 hv2 _ _ _ => ?_); subst hv1; subst hv2)
       refine gY hT 18 ?_
       refine gY hT 19 ?_
       first | refine gO 20 ?_ | (refine gX 20 ?_; intro _)
       refine gY hT 21 ?_
       refine gY hT 22 ?_
       first | refine gO 23 ?_ | (refine gX 23 ?_; intro _)
       refine zak dK ?_
       exact ⟨(.slice A1 (M ++ [y.k]).length c1, .slice A2 (W ++ [y.a]).length c2), fS, sA, sS⟩
     ·refine zaC rfl (zaf hT rfl rfl mE rfl rfl) ?_
      refine ⟨sF, ?_⟩
      refine gP 5 ?_
      refine zaC rfl (zaf hT rfl rfl mE rfl rfl) ?_
      refine ⟨sF, ?_⟩
      refine gP 9 ?_
      refine zac rfl [y.k] rfl rfl rfl rfl za6 uD (zah mE rfl) rfl (by intro x j; rcases j with _ | _ | _ | j <;> rfl) sM sN (Nat.zero_le _) (fun v1 => ?_)
      refine ⟨sF, ?_⟩
      refine gP 17 ?_
      refine zac rfl [y.a] rfl rfl rfl rfl zaO uD (zah mE rfl) rfl (by intro x j; rfl) sM sN (Nat.zero_le _) (fun v2 => ?_)
      refine ⟨sF, ?_⟩
      (refine zai v1 mE (fun A1 c1 hv1 _ _ _ => ?_); refine zai v2 mE (fun A2 c2 hv2 _ _ _ => ?_); subst hv1; subst hv2)
      refine gY hT 18 ?_
      refine gY hT 19 ?_
      first | refine gO 20 ?_ | (refine gX 20 ?_; intro _)
      refine gY hT 21 ?_
      refine gY hT 22 ?_
      first | refine gO 23 ?_ | (refine gX 23 ?_; intro _)
      refine zak dK ?_
      exact ⟨(.slice A1 (M ++ [y.k]).length c1, .slice A2 (W ++ [y.a]).length c2), fS, sA, sS⟩
   refine gN ?_
   refine gN ?_
   refine gN ?_
   refine gN ?_
   refine zdJ rfl rfl ?_ ?_
   ·refine zaC rfl (zaf hT rfl rfl mE rfl rfl) ?_
    refine ⟨sF, ?_⟩
    refine gA3 5 8 16 ?_ ?_ ?_
    ·refine zaC rfl (zaf hT rfl rfl mE rfl rfl) ?_
     refine ⟨sF, ?_⟩
     refine gA2 8 16 ?_ ?_
     ·(refine zaa (len := 1) rfl hT rfl rfl rfl rfl rfl rfl rfl rfl ?_; intro g6)
      refine ⟨sF, ?_⟩
      refine gA2 9 16 ?_ ?_
      ·refine zac rfl [y.k] rfl rfl rfl rfl za6 uD (zah mE rfl) rfl (by intro x j; rcases j with _ | _ | _ | j <;> rfl) sM sN (Nat.zero_le _) (fun v1 => ?_)
       refine ⟨sF, ?_⟩
       refine gP 16 ?_
       (refine zaa (len := 1) rfl hT rfl rfl rfl rfl rfl rfl rfl rfl ?_; intro g7)
       refine ⟨sF, ?_⟩
       refine gP 17 ?_
       refine zac rfl [y.a] rfl rfl rfl rfl zaO uD (zah mE rfl) rfl (by intro x j; rfl) sM sN (Nat.zero_le _) (fun v2 => ?_)
       refine ⟨sF, ?_⟩
       (refine zai v1 mE (fun A1 c1 hv1 _ _ _ => ?_); refine zai v2 mE (fun A2 c2 hv2 _ _ _ => ?_); subst hv1; subst hv2)
       refine gY hT 18 ?_
       refine gY hT 19 ?_
       first | refine gO 20 ?_ | (refine gX 20 ?_; intro _)
       refine gY hT 21 ?_
       refine gY hT 22 ?_
       first | refine gO 23 ?_ | (refine gX 23 ?_; intro _)
       refine zak dK ?_
       exact ⟨(.slice A1 (M ++ [y.k]).length c1, .slice A2 (W ++ [y.a]).length c2), fS, sA, sS⟩
      ·(refine zaa (len := 1) rfl hT rfl rfl rfl rfl rfl rfl rfl rfl ?_; intro g7)
       refine ⟨sF, ?_⟩
       refine gP 9 ?_
       refine zac rfl [y.k] rfl rfl rfl rfl za6 uD (zah mE rfl) rfl (by intro x j; rcases j with _ | _ | _ | j <;> rfl) sM sN (Nat.zero_le _) (fun v1 => ?_)
       refine ⟨sF, ?_⟩
       refine gP 17 ?_
       refine zac rfl [y.a] rfl rfl rfl rfl zaO uD (zah mE rfl) rfl (by intro x j; rfl) sM sN (Nat.zero_le _) (fun v2 => ?_)
       refine ⟨sF, ?_⟩
       (refine zai v1 mE (fun A1 c1 hv1 _ _ _ => ?_); refine zai v2 mE (fun A2 c2 hv2 _ _ _ => ?_); subst hv1; subst hv2)
       refine gY hT 18 ?_
       refine gY hT 19 ?_
       first | refine gO 20 ?_ | (refine gX 20 ?_; intro _)
       refine gY hT 21 ?_
       refine gY hT 22 ?_
       first | refine gO 23 ?_ | (refine gX 23 ?_; intro _)
       refine zak dK ?_
       exact ⟨(.slice A1 (M ++ [y.k]).length c1, .slice A2 (W ++ [y.a]).length c2), fS, sA, sS⟩
     ·(refine zaa (len := 1) rfl hT rfl rfl rfl rfl rfl rfl rfl rfl ?_; intro g7)
      refine ⟨sF, ?_⟩
      refine gP 8 ?_
      (refine zaa (len := 1) rfl hT rfl rfl rfl rfl rfl rfl rfl rfl ?_; intro g6)
      refine ⟨sF, ?_⟩
      refine gP 9 ?_
      refine zac rfl [y.k] rfl rfl rfl rfl za6 uD (zah mE rfl) rfl (by intro x j; rcases j with _ | _ | _ | j <;> rfl) sM sN (Nat.zero_le _) (fun v1 => ?_)
      refine ⟨sF, ?_⟩
      refine gP 17 ?_
      refine zac rfl [y.a] rfl rfl rfl rfl zaO uD (zah mE rfl) rfl (by intro x j; rfl) sM sN (Nat.zero_le _) (fun v2 => ?_)
      refine ⟨sF, ?_⟩
      (refine zai v1 mE (fun A1 c1 hv1 _ _ _ => ?_); refine zai v2 mE (fun A2 c2 hv2 _ _ _ => ?_); subst hv1; subst hv2)
      refine gY hT 18 ?_
      refine gY hT 19 ?_
      first | refine gO 20 ?_ | (refine gX 20 ?_; intro _)
      refine gY hT 21 ?_
      refine gY hT 22 ?_
      first | refine gO 23 ?_ | (refine gX 23 ?_; intro _)
      refine zak dK ?_
      exact ⟨(.slice A1 (M ++ [y.k]).length c1, .slice A2 (W ++ [y.a]).length c2), fS, sA, sS⟩
    ·(refine zaa (len := 1) rfl hT rfl rfl rfl rfl rfl rfl rfl rfl ?_; intro g6)
     refine ⟨sF, ?_⟩
     refine gA2 5 16 ?_ ?_
     ·refine zaC rfl (zaf hT rfl rfl mE rfl rfl) ?_
      refine ⟨sF, ?_⟩
      refine gA2 9 16 ?_ ?_
      ·refine zac rfl [y.k] rfl rfl rfl rfl za6 uD (zah mE rfl) rfl (by intro x j; rcases j with _ | _ | _ | j <;> rfl) sM sN (Nat.zero_le _) (fun v1 => ?_)
       refine ⟨sF, ?_⟩
       refine gP 16 ?_
       (refine zaa (len := 1) rfl hT rfl rfl rfl rfl rfl rfl rfl rfl ?_; intro g7)
       refine ⟨sF, ?_⟩
       refine gP 17 ?_
       refine zac rfl [y.a] rfl rfl rfl rfl zaO uD (zah mE rfl) rfl (by intro x j; rfl) sM sN (Nat.zero_le _) (fun v2 => ?_)
       refine ⟨sF, ?_⟩
       (refine zai v1 mE (fun A1 c1 hv1 _ _ _ => ?_); refine zai v2 mE (fun A2 c2 hv2 _ _ _ => ?_); subst hv1; subst hv2)
       refine gY hT 18 ?_
       refine gY hT 19 ?_
       first | refine gO 20 ?_ | (refine gX 20 ?_; intro _)
       refine gY hT 21 ?_
       refine gY hT 22 ?_
       first | refine gO 23 ?_ | (refine gX 23 ?_; intro _)
       refine zak dK ?_
       exact ⟨(.slice A1 (M ++ [y.k]).length c1, .slice A2 (W ++ [y.a]).length c2), fS, sA, sS⟩
      ·(refine zaa (len := 1) rfl hT rfl rfl rfl rfl rfl rfl rfl rfl ?_; intro g7)
       refine ⟨sF, ?_⟩
       refine gP 9 ?_
       refine zac rfl [y.k] rfl rfl rfl rfl za6 uD (zah mE rfl) rfl (by intro x j; rcases j with _ | _ | _ | j <;> rfl) sM sN (Nat.zero_le _) (fun v1 => ?_)
       refine ⟨sF, ?_⟩
       refine gP 17 ?_
       refine zac rfl [y.a] rfl rfl rfl rfl zaO uD (zah mE rfl) rfl (by intro x j; rfl) sM sN (Nat.zero_le _) (fun v2 => ?_)
       refine ⟨sF, ?_⟩
       (refine zai v1 mE (fun A1 c1 hv1 _ _ _ => ?_); refine zai v2 mE (fun A2 c2 hv2 _ _ _ => ?_); subst hv1; subst hv2)
       refine gY hT 18 ?_
       refine gY hT 19 ?_
       first | refine gO 20 ?_ | (refine gX 20 ?_; intro _)
       refine gY hT 21 ?_
       refine gY hT 22 ?_
       first | refine gO 23 ?_ | (refine gX 23 ?_; intro _)
       refine zak dK ?_
       exact ⟨(.slice A1 (M ++ [y.k]).length c1, .slice A2 (W ++ [y.a]).length c2), fS, sA, sS⟩
     ·(refine zaa (len := 1) rfl hT rfl rfl rfl rfl rfl rfl rfl rfl ?_; intro g7)
      refine ⟨sF, ?_⟩
      refine gP 5 ?_
      refine zaC rfl (zaf hT rfl rfl mE rfl rfl) ?_
      refine ⟨sF, ?_⟩
      refine gP 9 ?_
      refine zac rfl [y.k] rfl rfl rfl rfl za6 uD (zah mE rfl) rfl (by intro x j; rcases j with _ | _ | _ | j <;> rfl) sM sN (Nat.zero_le _) (fun v1 => ?_)
      refine ⟨sF, ?_⟩
      refine gP 17 ?_
      refine zac rfl [y.a] rfl rfl rfl rfl zaO uD (zah mE rfl) rfl (by intro x j; rfl) sM sN (Nat.zero_le _) (fun v2 => ?_)
      refine ⟨sF, ?_⟩
      (refine zai v1 mE (fun A1 c1 hv1 _ _ _ => ?_); refine zai v2 mE (fun A2 c2 hv2 _ _ _ => ?_); subst hv1; subst hv2)
      refine gY hT 18 ?_
      refine gY hT 19 ?_
      first | refine gO 20 ?_ | (refine gX 20 ?_; intro _)
      refine gY hT 21 ?_
      refine gY hT 22 ?_
      first | refine gO 23 ?_ | (refine gX 23 ?_; intro _)
      refine zak dK ?_
      exact ⟨(.slice A1 (M ++ [y.k]).length c1, .slice A2 (W ++ [y.a]).length c2), fS, sA, sS⟩
    ·(refine zaa (len := 1) rfl hT rfl rfl rfl rfl rfl rfl rfl rfl ?_; intro g7)
     refine ⟨sF, ?_⟩
     refine gA2 5 8 ?_ ?_
     ·refine zaC rfl (zaf hT rfl rfl mE rfl rfl) ?_
      refine ⟨sF, ?_⟩
      refine gP 8 ?_
      (refine zaa (len := 1) rfl hT rfl rfl rfl rfl rfl rfl rfl rfl ?_; intro g6)
      refine ⟨sF, ?_⟩
      refine gP 9 ?_
      refine zac rfl [y.k] rfl rfl rfl rfl za6 uD (zah mE rfl) rfl (by intro x j; rcases j with _ | _ | _ | j <;> rfl) sM sN (Nat.zero_le _) (fun v1 => ?_)
      refine ⟨sF, ?_⟩
      refine gP 17 ?_
      refine zac rfl [y.a] rfl rfl rfl rfl zaO uD (zah mE rfl) rfl (by intro x j; rfl) sM sN (Nat.zero_le _) (fun v2 => ?_)
      refine ⟨sF, ?_⟩
      (refine zai v1 mE (fun A1 c1 hv1 _ _ _ => ?_); refine zai v2 mE (fun A2 c2 hv2 _ _ _ => ?_); subst hv1; subst hv2)
      refine gY hT 18 ?_
      refine gY hT 19 ?_
      first | refine gO 20 ?_ | (refine gX 20 ?_; intro _)
      refine gY hT 21 ?_
      refine gY hT 22 ?_
      first | refine gO 23 ?_ | (refine gX 23 ?_; intro _)
      refine zak dK ?_
      exact ⟨(.slice A1 (M ++ [y.k]).length c1, .slice A2 (W ++ [y.a]).length c2), fS, sA, sS⟩
     ·(refine zaa (len := 1) rfl hT rfl rfl rfl rfl rfl rfl rfl rfl ?_; intro g6)
      refine ⟨sF, ?_⟩
      refine gP 5 ?_
      refine zaC rfl (zaf hT rfl rfl mE rfl rfl) ?_
      refine ⟨sF, ?_⟩
      refine gP 9 ?_
      refine zac rfl [y.k] rfl rfl rfl rfl za6 uD (zah mE rfl) rfl (by intro x j; rcases j with _ | _ | _ | j <;> rfl) sM sN (Nat.zero_le _) (fun v1 => ?_)
      refine ⟨sF, ?_⟩
      refine gP 17 ?_
      refine zac rfl [y.a] rfl rfl rfl rfl zaO uD (zah mE rfl) rfl (by intro x j; rfl) sM sN (Nat.zero_le _) (fun v2 => ?_)
      refine ⟨sF, ?_⟩
      (refine zai v1 mE (fun A1 c1 hv1 _ _ _ => ?_); refine zai v2 mE (fun A2 c2 hv2 _ _ _ => ?_); subst hv1; subst hv2)
      refine gY hT 18 ?_
      refine gY hT 19 ?_
      first | refine gO 20 ?_ | (refine gX 20 ?_; intro _)
      refine gY hT 21 ?_
      refine gY hT 22 ?_
      first | refine gO 23 ?_ | (refine gX 23 ?_; intro _)
      refine zak dK ?_
      exact ⟨(.slice A1 (M ++ [y.k]).length c1, .slice A2 (W ++ [y.a]).length c2), fS, sA, sS⟩
   refine gN ?_
   refine gN ?_
   refine zdJ rfl rfl ?_ ?_
   ·(refine zaa (len := 1) rfl hT rfl rfl rfl rfl rfl rfl rfl rfl ?_; intro g7)
    refine ⟨sF, ?_⟩
    refine gA3 5 8 13 ?_ ?_ ?_
    ·refine zaC rfl (zaf hT rfl rfl mE rfl rfl) ?_
     refine ⟨sF, ?_⟩
     refine gA2 8 13 ?_ ?_
     ·(refine zaa (len := 1) rfl hT rfl rfl rfl rfl rfl rfl rfl rfl ?_; intro g6)
      refine ⟨sF, ?_⟩
      refine gA2 9 13 ?_ ?_
      ·refine zac rfl [y.k] rfl rfl rfl rfl za6 uD (zah mE rfl) rfl (by intro x j; rcases j with _ | _ | _ | j <;> rfl) sM sN (Nat.zero_le _) (fun v1 => ?_)
       refine ⟨sF, ?_⟩
       refine gP 13 ?_
       refine zaC rfl (zaf hT rfl rfl mE rfl rfl) ?_
       refine ⟨sF, ?_⟩
       refine gP 17 ?_
       refine zac rfl [y.a] rfl rfl rfl rfl zaO uD (zah mE rfl) rfl (by intro x j; rfl) sM sN (Nat.zero_le _) (fun v2 => ?_)
       refine ⟨sF, ?_⟩
       (refine zai v1 mE (fun A1 c1 hv1 _ _ _ => ?_); refine zai v2 mE (fun A2 c2 hv2 _ _ _ => ?_); subst hv1; subst hv2)
       refine gY hT 18 ?_
       refine gY hT 19 ?_
       first | refine gO 20 ?_ | (refine gX 20 ?_; intro _)
       refine gY hT 21 ?_
       refine gY hT 22 ?_
       first | refine gO 23 ?_ | (refine gX 23 ?_; intro _)
       refine zak dK ?_
       exact ⟨(.slice A1 (M ++ [y.k]).length c1, .slice A2 (W ++ [y.a]).length c2), fS, sA, sS⟩
      ·refine zaC rfl (zaf hT rfl rfl mE rfl rfl) ?_
       refine ⟨sF, ?_⟩
       refine gP 9 ?_
       refine zac rfl [y.k] rfl rfl rfl rfl za6 uD (zah mE rfl) rfl (by intro x j; rcases j with _ | _ | _ | j <;> rfl) sM sN (Nat.zero_le _) (fun v1 => ?_)
       refine ⟨sF, ?_⟩
       refine gP 17 ?_
       refine zac rfl [y.a] rfl rfl rfl rfl zaO uD (zah mE rfl) rfl (by intro x j; rfl) sM sN (Nat.zero_le _) (fun v2 => ?_)
       refine ⟨sF, ?_⟩
       (refine zai v1 mE (fun A1 c1 hv1 _ _ _ => ?_); refine zai v2 mE (fun A2 c2 hv2 _ _ _ => ?_); subst hv1; subst hv2)
       refine gY hT 18 ?_
       refine gY hT 19 ?_
       first | refine gO 20 ?_ | (refine gX 20 ?_; intro _)
       refine gY hT 21 ?_
       refine gY hT 22 ?_
       first | refine gO 23 ?_ | (refine gX 23 ?_; intro _)
       refine zak dK ?_
       exact ⟨(.slice A1 (M ++ [y.k]).length c1, .slice A2 (W ++ [y.a]).length c2), fS, sA, sS⟩
     ·refine zaC rfl (zaf hT rfl rfl mE rfl rfl) ?_
      refine ⟨sF, ?_⟩
      refine gP 8 ?_
      (refine zaa (len := 1) rfl hT rfl rfl rfl rfl rfl rfl rfl rfl ?_; intro g6)
      refine ⟨sF, ?_⟩
      refine gP 9 ?_
      refine zac rfl [y.k] rfl rfl rfl rfl za6 uD (zah mE rfl) rfl (by intro x j; rcases j with _ | _ | _ | j <;> rfl) sM sN (Nat.zero_le _) (fun v1 => ?_)
      refine ⟨sF, ?_⟩
      refine gP 17 ?_
      refine zac rfl [y.a] rfl rfl rfl rfl zaO uD (zah mE rfl) rfl (by intro x j; rfl) sM sN (Nat.zero_le _) (fun v2 => ?_)
      refine ⟨sF, ?_⟩
      (refine zai v1 mE (fun A1 c1 hv1 _ _ _ => ?_); refine zai v2 mE (fun A2 c2 hv2 _ _ _ => ?_); subst hv1; subst hv2)
      refine gY hT 18 ?_
      refine gY hT 19 ?_
      first | refine gO 20 ?_ | (refine gX 20 ?_; intro _)
      refine gY hT 21 ?_
      refine gY hT 22 ?_
      first | refine gO 23 ?_ | (refine gX 23 ?_; intro _)
      refine zak dK ?_
      exact ⟨(.slice A1 (M ++ [y.k]).length c1, .slice A2 (W ++ [y.a]).length c2), fS, sA, sS⟩
    ·(refine zaa (len := 1) rfl hT rfl rfl rfl rfl rfl rfl rfl rfl ?_; intro g6)
     refine ⟨sF, ?_⟩
     refine gA2 5 13 ?_ ?_
     ·refine zaC rfl (zaf hT rfl rfl mE rfl rfl) ?_
      refine ⟨sF, ?_⟩
      refine gA2 9 13 ?_ ?_
      ·refine zac rfl [y.k] rfl rfl rfl rfl za6 uD (zah mE rfl) rfl (by intro x j; rcases j with _ | _ | _ | j <;> rfl) sM sN (Nat.zero_le _) (fun v1 => ?_)
       refine ⟨sF, ?_⟩
       refine gP 13 ?_
       refine zaC rfl (zaf hT rfl rfl mE rfl rfl) ?_
       refine ⟨sF, ?_⟩
       refine gP 17 ?_
       refine zac rfl [y.a] rfl rfl rfl rfl zaO uD (zah mE rfl) rfl (by intro x j; rfl) sM sN (Nat.zero_le _) (fun v2 => ?_)
       refine ⟨sF, ?_⟩
       (refine zai v1 mE (fun A1 c1 hv1 _ _ _ => ?_); refine zai v2 mE (fun A2 c2 hv2 _ _ _ => ?_); subst hv1; subst hv2)
       refine gY hT 18 ?_
       refine gY hT 19 ?_
       first | refine gO 20 ?_ | (refine gX 20 ?_; intro _)
       refine gY hT 21 ?_
       refine gY hT 22 ?_
       first | refine gO 23 ?_ | (refine gX 23 ?_; intro _)
       refine zak dK ?_
       exact ⟨(.slice A1 (M ++ [y.k]).length c1, .slice A2 (W ++ [y.a]).length c2), fS, sA, sS⟩
      ·refine zaC rfl (zaf hT rfl rfl mE rfl rfl) ?_
       refine ⟨sF, ?_⟩
       refine gP 9 ?_
       refine zac rfl [y.k] rfl rfl rfl rfl za6 uD (zah mE rfl) rfl (by intro x j; rcases j with _ | _ | _ | j <;> rfl) sM sN (Nat.zero_le _) (fun v1 => ?_)
       refine ⟨sF, ?_⟩
       refine gP 17 ?_
       refine zac rfl [y.a] rfl rfl rfl rfl zaO uD (zah mE rfl) rfl (by intro x j; rfl) sM sN (Nat.zero_le _) (fun v2 => ?_)
       refine ⟨sF, ?_⟩
       (refine zai v1 mE (fun A1 c1 hv1 _ _ _ => ?_); refine zai v2 mE (fun A2 c2 hv2 _ _ _ => ?_); subst hv1; subst hv2)
       refine gY hT 18 ?_
       refine gY hT 19 ?_
       first | refine gO 20 ?_ | (refine gX 20 ?_; intro _)
       refine gY hT 21 ?_
       refine gY hT 22 ?_
       first | refine gO 23 ?_ | (refine gX 23 ?_; intro _)
       refine zak dK ?_
       exact ⟨(.slice A1 (M ++ [y.k]).length c1, .slice A2 (W ++ [y.a]).length c2), fS, sA, sS⟩
     ·refine zaC rfl (zaf hT rfl rfl mE rfl rfl) ?_
      refine ⟨sF, ?_⟩
      refine gP 5 ?_
      refine zaC rfl (zaf hT rfl rfl mE rfl rfl) ?_
      refine ⟨sF, ?_⟩
      refine gP 9 ?_
      refine zac rfl [y.k] rfl rfl rfl rfl za6 uD (zah mE rfl) rfl (by intro x j; rcases j with _ | _ | _ | j <;> rfl) sM sN (Nat.zero_le _) (fun v1 => ?_)
      refine ⟨sF, ?_⟩
      refine gP 17 ?_
      refine zac rfl [y.a] rfl rfl rfl rfl zaO uD (zah mE rfl) rfl (by intro x j; rfl) sM sN (Nat.zero_le _) (fun v2 => ?_)
      refine ⟨sF, ?_⟩
      (refine zai v1 mE (fun A1 c1 hv1 _ _ _ => ?_); refine zai v2 mE (fun A2 c2 hv2 _ _ _ => ?_); subst hv1; subst hv2)
      refine gY hT 18 ?_
      refine gY hT 19 ?_
      first | refine gO 20 ?_ | (refine gX 20 ?_; intro _)
      refine gY hT 21 ?_
      refine gY hT 22 ?_
      first | refine gO 23 ?_ | (refine gX 23 ?_; intro _)
      refine zak dK ?_
      exact ⟨(.slice A1 (M ++ [y.k]).length c1, .slice A2 (W ++ [y.a]).length c2), fS, sA, sS⟩
    ·refine zaC rfl (zaf hT rfl rfl mE rfl rfl) ?_
     refine ⟨sF, ?_⟩
     refine gA2 5 8 ?_ ?_
     ·refine zaC rfl (zaf hT rfl rfl mE rfl rfl) ?_
      refine ⟨sF, ?_⟩
      refine gP 8 ?_
      (refine zaa (len := 1) rfl hT rfl rfl rfl rfl rfl rfl rfl rfl ?_; intro g6)
      refine ⟨sF, ?_⟩
      refine gP 9 ?_
      refine zac rfl [y.k] rfl rfl rfl rfl za6 uD (zah mE rfl) rfl (by intro x j; rcases j with _ | _ | _ | j <;> rfl) sM sN (Nat.zero_le _) (fun v1 => ?_)
      refine ⟨sF, ?_⟩
      refine gP 17 ?_
      refine zac rfl [y.a] rfl rfl rfl rfl zaO uD (zah mE rfl) rfl (by intro x j; rfl) sM sN (Nat.zero_le _) (fun v2 => ?_)
      refine ⟨sF, ?_⟩
      (refine zai v1 mE (fun A1 c1 hv1 _ _ _ => ?_); refine zai v2 mE (fun A2 c2 hv2 _ _ _ => ?_); subst hv1; subst hv2)
      refine gY hT 18 ?_
      refine gY hT 19 ?_
      first | refine gO 20 ?_ | (refine gX 20 ?_; intro _)
      refine gY hT 21 ?_
      refine gY hT 22 ?_
      first | refine gO 23 ?_ | (refine gX 23 ?_; intro _)
      refine zak dK ?_
      exact ⟨(.slice A1 (M ++ [y.k]).length c1, .slice A2 (W ++ [y.a]).length c2), fS, sA, sS⟩
     ·(refine zaa (len := 1) rfl hT rfl rfl rfl rfl rfl rfl rfl rfl ?_; intro g6)
      refine ⟨sF, ?_⟩
      refine gP 5 ?_
      refine zaC rfl (zaf hT rfl rfl mE rfl rfl) ?_
      refine ⟨sF, ?_⟩
      refine gP 9 ?_
      refine zac rfl [y.k] rfl rfl rfl rfl za6 uD (zah mE rfl) rfl (by intro x j; rcases j with _ | _ | _ | j <;> rfl) sM sN (Nat.zero_le _) (fun v1 => ?_)
      refine ⟨sF, ?_⟩
      refine gP 17 ?_
      refine zac rfl [y.a] rfl rfl rfl rfl zaO uD (zah mE rfl) rfl (by intro x j; rfl) sM sN (Nat.zero_le _) (fun v2 => ?_)
      refine ⟨sF, ?_⟩
      (refine zai v1 mE (fun A1 c1 hv1 _ _ _ => ?_); refine zai v2 mE (fun A2 c2 hv2 _ _ _ => ?_); subst hv1; subst hv2)
      refine gY hT 18 ?_
      refine gY hT 19 ?_
      first | refine gO 20 ?_ | (refine gX 20 ?_; intro _)
      refine gY hT 21 ?_
      refine gY hT 22 ?_
      first | refine gO 23 ?_ | (refine gX 23 ?_; intro _)
      refine zak dK ?_
      exact ⟨(.slice A1 (M ++ [y.k]).length c1, .slice A2 (W ++ [y.a]).length c2), fS, sA, sS⟩
   refine gN ?_
   refine gN ?_
   refine gN ?_
   refine gN ?_
   refine gN ?_
   refine gN ?_
   refine gN ?_
   exact zl1 dK
  ·obtain ⟨v1, v2⟩ := p
   change GK _ _ [(3, .pointer (some ⟨g, 0, none⟩)), (8, .slice (some ⟨b0, off, none⟩) n c), (9, .int .i64 n), (10, .int .i64 j)] [own 0 29 3 v1 KE (M ++ [y.k]), own 0 26 1 v2 (IE .u32) (W ++ [y.a]), blk g [.bool true, v1, v2, .slice none 0 0, .int .u32 0] 109] [sl (some ⟨b0, off, none⟩) 4 EE L]
   (repeat (refine gG ?_; try intro _))
   have ht : L.take (j + 1) = L.take j ++ [y] := by
    have hjl : j < L.length := by omega
    rw [List.take_succ_eq_append_getElem hjl]
    rw [List.getElem?_eq_getElem hjl] at hy
    injection hy with hy
    rw [hy]
   refine zag rfl (j + 1, v1, v2, M ++ [y.k], W ++ [y.a]) ⟨by omega, by rw [ht, List.map_append, hM]; rfl, by rw [ht, List.map_append, hW]; rfl⟩ (by dsimp only; omega) fS sA sS
 ·have hjl : j = L.length := by omega
  subst hjl
  rw [List.take_length] at hM hW
  refine zaW _ uD (fun A1 c1 hA1 hA11 hA12 hA13 => ?_); subst hA1
  refine zaW _ uD (fun A2 c2 hA2 hA21 hA22 hA23 => ?_); subst hA2
  refine zba none 1 PE ?_
  (repeat (refine gG ?_; try intro _))
  refine zad hT rfl rfl (.tmp rfl .nil) (fun w' hk => ?_)
  exact Ret.mk ⟨g, true, ⟨A1, M.length, c1⟩, M, ⟨A2, W.length, c2⟩, W, ⟨none, 0, 0⟩, [], 0⟩ ⟨⟨⟨⟨rfl, hA11, hA12, hA13⟩, ⟨rfl, hA21, hA22, hA23⟩, SlV.zdx⟩, rfl, hM, hW, rfl, fun x hx h0 e => apart hk (φ := sl A2 1 (IE .u32) W) (ψ := blk g [.bool true, .slice A1 M.length c1, .slice A2 W.length c2, .slice none 0 0, .int .u32 0] 109) sE mE x.block ⟨h0, x, hx, rfl⟩ e, rfl⟩, rfl⟩ rfl hk sA
theorem zdA (A : Option Addr) (n c : Nat) (L : List EntD) (w : World) (hn : n = L.length) (h9 : L.length ≤ 10000) (hs : Sl w A 4 EE L) :
 Calls Tryz.prog 52 [.slice A n c].toArray w (Ret (IsLeaf L) NodeD.ptr NodeD.fs w) :=
 (zeO A n c L w hn h9 hs).mono fun e w' ⟨s, hi, hv, hf⟩ => ⟨s, hi.1, hv, hf⟩
end Go.Proofs.YtaghmffgoomebaaGreat.Nd
