/- fix.Reader, by reckoned steps: what a reader's calls hand back, and what is left. key.Read; node.Get. A tree's headers lie apart from what its nodes hold; what Save makes of a tree (plain; no program). -/
import Derived.Test.YtaghmffgoomebaaGreatPage3
import Derived.Test.YtaghmffgoomebaaGreatNd
import Derived.Test.YtaghmffgoomebaaGreatNd3
import Derived.Laws.BytesArg
import Derived.Test.YtaghmffgoomebaaGreatSv1
import Derived.Test.YtaghmffgoomebaaGreatNd9
namespace Go.Proofs.YtaghmffgoomebaaGreat.Rd
open Go.RowKit Mem Gx Bytes Fix Reader
set_option linter.unusedVariables false
set_option linter.unusedSimpArgs false
set_option maxRecDepth 100000
set_option maxHeartbeats 4000000
/-- A reader in block g. -/
structure In (w : World) (g : Nat) (s : SlV) (L : List Int) (bad : Bool) : Prop where
  ok : s.Ok L.length
  b : w.heap[g]? = some (.cells [s.v, .bool bad].toArray 201 (0, 0))
  src : Sl w s.A 1 (IE .u8) L
  ne : ∀ b, (sl s.A 1 (IE .u8) L).S b → b ≠ g
theorem In.kn {w : World} {g : Nat} {s : SlV} {L : List Int} {bad : Bool} (h : In w g s L bad) : Kn [g] w w [blk g [s.v, .bool bad] 201] [sl s.A 1 (IE .u8) L] :=
  (Kn.startW h.b).argR h.src (by decide) (fun φ hφ b hb hb' => by
    obtain rfl := List.mem_singleton.1 hφ
    have : b = g := hb
    exact h.ne b hb' this)
/-- What is left, as a slice. -/
structure Nx (s : SlV) (L M : List Int) (q : SlV) : Prop where
  ok : q.Ok M.length
  S : ∀ b, (sl q.A 1 (IE .u8) M).S b → (sl s.A 1 (IE .u8) L).S b
/-! fix.Reader, by reckoned steps: numbers; its end. -/
/-! fix.Reader: reading at a place; reading what isn't all there. -/
/-- What isn't all there: c bytes are wanted. -/
def Sh (M : List Int) (bad : Bool) (c : Nat) : Prop := bad = true ∨ M.length < c
/-- What is left of a reader: its slice, its bytes, whether something was not there; a number. -/
structure RS where
  q : SlV
  M : List Int
  bad : Bool
  x : Int
structure RS.Ok (s : SlV) (L : List Int) (m : Int) (c : Nat) (r : RS) : Prop where
  nx : Nx s L r.M r.q
  isB : IsB r.M
  len : r.M.length ≤ L.length
  sh : Sh r.M r.bad c
  x : 0 ≤ r.x ∧ r.x < m
/-! fix.Reader: at a place of the bytes, or behind their end. -/
/-- What a reader of L holds that has been asked for o bytes. -/
structure Pos (L : List Int) (o : Nat) (M : List Int) (bad : Bool) : Prop where
  ok : o ≤ L.length → M = L.drop o ∧ bad = false
  no : L.length < o → bad = true
  nl : L.length < o → M = []
  isB : IsB M
  len : M.length ≤ L.length
/-- A reader's slice, bytes, state, and what was read. -/
structure PS (L : List Int) (s : SlV) (M : List Int) (o k : Nat) (m : Int) (r : RS) : Prop where
  nx : Nx s M r.M r.q
  pos : Pos L (o + k) r.M r.bad
  x : 0 ≤ r.x ∧ r.x < m
  val : o + k ≤ L.length → r.x = num ((L.drop o).take k)
abbrev RetP (L : List Int) (g : Nat) (s : SlV) (M : List Int) (o k : Nat) (m : Int) (vk : IntKind) (w : World) : Ending → World → Prop := RetW g 201 [sl s.A 1 (IE .u8) M] (PS L s M o k m) (fun r => .int vk r.x) (fun r => [r.q.v, .bool r.bad]) (fun _ => []) (fun r => [sl r.q.A 1 (IE .u8) r.M]) w
end Go.Proofs.YtaghmffgoomebaaGreat.Rd
namespace Go.Proofs.YtaghmffgoomebaaGreat.Nd
open Go.RowKit Mem Gx Rd Bytes
set_option linter.unusedVariables false
set_option linter.unusedSimpArgs false
set_option maxRecDepth 100000
set_option maxHeartbeats 4000000
theorem calls_b {P : Program} {fid : FuncId} {args : Array Value} {w : World} {a b : Bool} (e0 : a = b) (h : Calls P fid args w fun e w' => e = .returned (.bool a) ∧ Below w.heap.size w w') : Calls P fid args w fun e w' => e = .returned (.bool b) ∧ Below w.heap.size w w' := e0 ▸ h
end Go.Proofs.YtaghmffgoomebaaGreat.Nd
namespace Go.Proofs.YtaghmffgoomebaaGreat.Tr
open Go.RowKit Mem Nd Gx Tw
set_option linter.unusedVariables false
set_option linter.unusedSimpArgs false
theorem good_V : ∀ {h : Nat} {t : T h}, Ok h t → Good h t → ∀ {d : NodeD}, d ∈ nds h t → d.Vs = [] ∨ 3 ≤ d.Vs.length
  | 0, t, ok, g, d, hd => by
    obtain rfl := List.mem_singleton.1 hd
    have e : (nd 0 t).Vs = t.2.map (·.a) := ok.1.Vs
    exact .inr (by rw [e, List.length_map]; exact g.1)
  | h + 1, t, ok, g, d, hd => by
    rcases nds_cases hd with rfl | ⟨k, hk, hd⟩
    · exact .inl ok.1.Vs
    · exact good_V (ok.2.2 k hk) (g.2.2 k hk) hd
theorem root_V : ∀ {h : Nat} {t : T h}, Ok h t → Root h t → ∀ {d : NodeD}, d ∈ nds h t → (d.Vs = [] ∨ 3 ≤ d.Vs.length) ∨ h = 0
  | 0, t, ok, g, d, hd => .inr rfl
  | h + 1, t, ok, g, d, hd => by
    rcases nds_cases hd with rfl | ⟨k, hk, hd⟩
    · exact .inl (.inl ok.1.Vs)
    · exact .inl (good_V (ok.2.2 k hk) (g.2.2 k hk) hd)
theorem sl_at {α : Type} [Inhabited α] {w : World} {A : Option Addr} {sz : Nat} {enc : α → Nat → Value} {L : List α} {b : Nat} (h : Sl w A sz enc L) (hS : (sl A sz enc L).S b) : ∃ off, ∀ i, i < L.length → ∀ j, j < sz → w.cell? ⟨b, off + i * sz + j, none⟩ = some (enc (L.getD i default) j) := by
  obtain ⟨h0, a, ea, eb⟩ := hS
  obtain ⟨b', off, e1, hc⟩ := h h0
  rw [e1] at ea
  have e2 : b' = b := by rw [← eb, ← Option.some.inj ea]
  subst e2
  exact ⟨off, hc⟩
/-- What nodes hold lies apart from a header. -/
theorem hd_apart {w : World} {d d' : NodeD} (H : (nodeF d).p w) (H' : (nodeF d').p w) (hV : (d'.Vs = [] ∨ 2 ≤ d'.Vs.length) ∨ ∀ x, d'.V.A = some x → 0 < d'.Vs.length → x.block ≠ d.g) : ¬ (slD d').S d.g := by
  rintro ⟨φ, hφ, hS⟩
  have hc := hd_cell (nodeF_hd H)
  rcases List.mem_cons.1 hφ with rfl | hφ
  · obtain ⟨off, h1⟩ := sl_at (nodeF_K H') hS
    have k := (h1 0 hS.1 0 (by decide)).symm.trans (hc _)
    match off + 0 * 3 + 0, k with
    | 0, k => simp [KE] at k
    | 1, k => simp [KE, SlV.v] at k
    | 2, k => simp [KE, SlV.v] at k
    | 3, k => simp [KE, SlV.v] at k
    | 4, k => simp [KE] at k
    | _ + 5, k => simp at k
  rcases List.mem_cons.1 hφ with rfl | hφ
  · rcases hV with (hV | hV) | hV
    · have := hS.1
      rw [hV] at this
      exact absurd this (by simp)
    · obtain ⟨off, h1⟩ := sl_at (nodeF_V H') hS
      have k := (h1 0 hS.1 0 (by decide)).symm.trans (hc _)
      have k2 := (h1 1 hV 0 (by decide)).symm.trans (hc _)
      rw [show off + 1 * 1 + 0 = off + 0 * 1 + 0 + 1 by omega] at k2
      match off + 0 * 1 + 0, k, k2 with
      | 0, k, _ => simp [IE] at k
      | 1, k, _ => simp [IE, SlV.v] at k
      | 2, k, _ => simp [IE, SlV.v] at k
      | 3, k, _ => simp [IE, SlV.v] at k
      | 4, _, k => simp at k
      | _ + 5, k, _ => simp at k
    · obtain ⟨h0, a, ea, eb⟩ := hS
      exact hV a ea h0 eb
  · obtain rfl := List.mem_singleton.1 hφ
    obtain ⟨off, h1⟩ := sl_at (nodeF_C H') hS
    have k := (h1 0 hS.1 0 (by decide)).symm.trans (hc _)
    match off + 0 * 1 + 0, k with
    | 0, k => simp [PE] at k
    | 1, k => simp [PE, SlV.v] at k
    | 2, k => simp [PE, SlV.v] at k
    | 3, k => simp [PE, SlV.v] at k
    | 4, k => simp [PE] at k
    | _ + 5, k => simp at k
theorem hs_apart {w : World} {h : Nat} {t : T h} (ok : Ok h t) (hr : Root h t) (H : (treeF h t).p w) : ∀ b, (slF h t).S b → ¬ (hdF h t).S b := by
  rintro b ⟨d', hd', h1⟩ ⟨d, hd, h2⟩
  have e : b = d.g := h2
  subst e
  refine hd_apart (tree_p H hd) (tree_p H hd') ?_ h1
  rcases root_V ok hr hd' with (h3 | h3) | h3
  · exact .inl (.inl h3)
  · exact .inl (.inr (by omega))
  · subst h3
    obtain rfl := List.mem_singleton.1 hd'
    obtain rfl := List.mem_singleton.1 hd
    exact .inr ok.1.vg
/-! ### what Save makes of a tree -/
/-- Behind so many blocks that were taken: the list of blocks, and what was written. -/
structure SvS where
  k : Nat
  l : List Int
  W : List (Nat × List Int)
/-- A node gets a block, if it has none. -/
def svN (d : NodeD) (X : List Int) (s : SvS) : NodeD × SvS :=
  if d.a = 0 then ({ d with a := (s.k : Int) + 1 }, ⟨s.k + 1, s.l ++ [(s.k : Int) + 1], s.W ++ [(s.k + 1, X)]⟩) else (d, ⟨s.k, s.l ++ [d.a], s.W⟩)
def svL {α σ : Type} (f : α → σ → α × σ) : List α → σ → List α × σ
  | [], s => ([], s)
  | x :: r, s => ((f x s).1 :: (svL f r (f x s).2).1, (svL f r (f x s).2).2)
/-- What an inner node's sector says. -/
def kidE (h : Nat) (ks : List (T h)) : List EntD := ks.map fun k => ⟨(nd h k).Ks.getD 0 default, (nd h k).a⟩
noncomputable def svT : (h : Nat) → T h → SvS → T h × SvS
  | 0, t, s => (((svN t.1 (Page.page 3 (nodeB t.2)) s).1, t.2), (svN t.1 (Page.page 3 (nodeB t.2)) s).2)
  | h + 1, t, s => (((svN t.1 (Page.page 4 (nodeB (kidE h (svL (svT h) t.2 s).1))) (svL (svT h) t.2 s).2).1, (svL (svT h) t.2 s).1), (svN t.1 (Page.page 4 (nodeB (kidE h (svL (svT h) t.2 s).1))) (svL (svT h) t.2 s).2).2)
/-- Alike but for the block. -/
structure SameA (d d' : NodeD) : Prop where
  g : d'.g = d.g
  leaf : d'.leaf = d.leaf
  K : d'.K = d.K
  Ks : d'.Ks = d.Ks
  V : d'.V = d.V
  Vs : d'.Vs = d.Vs
  C : d'.C = d.C
  Cs : d'.Cs = d.Cs
theorem SameA.refl (d : NodeD) : SameA d d := ⟨rfl, rfl, rfl, rfl, rfl, rfl, rfl, rfl⟩
theorem svN_same (d : NodeD) (X : List Int) (s : SvS) : SameA d (svN d X s).1 := by
  unfold svN
  split
  · exact ⟨rfl, rfl, rfl, rfl, rfl, rfl, rfl, rfl⟩
  · exact SameA.refl d
theorem svL_snoc {α σ : Type} (f : α → σ → α × σ) (x : α) : ∀ (l : List α) (s : σ), svL f (l ++ [x]) s = ((svL f l s).1 ++ [(f x (svL f l s).2).1], (f x (svL f l s).2).2)
  | [], _ => rfl
  | y :: r, s => by
    show ((f y s).1 :: (svL f (r ++ [x]) (f y s).2).1, (svL f (r ++ [x]) (f y s).2).2) = _
    rw [svL_snoc f x r]
    rfl
theorem svL_len {α σ : Type} (f : α → σ → α × σ) : ∀ (l : List α) (s : σ), (svL f l s).1.length = l.length
  | [], _ => rfl
  | x :: r, s => by show (svL f r (f x s).2).1.length + 1 = r.length + 1; rw [svL_len f r]
theorem svL_map {α σ β : Type} (f : α → σ → α × σ) (φ : α → β) (hf : ∀ x s, φ (f x s).1 = φ x) : ∀ (l : List α) (s : σ), (svL f l s).1.map φ = l.map φ
  | [], _ => rfl
  | x :: r, s => by show φ (f x s).1 :: (svL f r (f x s).2).1.map φ = φ x :: r.map φ; rw [hf, svL_map f φ hf r]
theorem svT_nd : ∀ (h : Nat) (t : T h) (s : SvS), SameA (nd h t) (nd h (svT h t s).1)
  | 0, t, s => svN_same ..
  | h + 1, t, s => svN_same ..
/-- How many nodes have no block yet; the blocks, children ahead of their parents. -/
def frN (d : NodeD) : Nat := if d.a = 0 then 1 else 0
def fr : (h : Nat) → T h → Nat
  | 0, t => frN (nd 0 t)
  | h + 1, t => (t.2.map (fr h)).sum + frN (nd (h + 1) t)
def pl : (h : Nat) → T h → List Int
  | 0, t => [(nd 0 t).a]
  | h + 1, t => (t.2.map (pl h)).flatten ++ [(nd (h + 1) t).a]
theorem svN_k (d : NodeD) (X : List Int) (s : SvS) : (svN d X s).2.k = s.k + frN d ∧ (svN d X s).2.l = s.l ++ [(svN d X s).1.a] := by
  unfold svN frN
  split
  · exact ⟨rfl, rfl⟩
  · exact ⟨rfl, rfl⟩
theorem svL_k {α : Type} (f : α → SvS → α × SvS) (φ : α → Nat) (ψ : α → List Int) (hf : ∀ x s, (f x s).2.k = s.k + φ x ∧ (f x s).2.l = s.l ++ ψ (f x s).1) : ∀ (l : List α) (s : SvS), (svL f l s).2.k = s.k + (l.map φ).sum ∧ (svL f l s).2.l = s.l ++ ((svL f l s).1.map ψ).flatten
  | [], s => ⟨rfl, by show s.l = s.l ++ []; rw [List.append_nil]⟩
  | x :: r, s => by
    obtain ⟨h1, h2⟩ := hf x s
    obtain ⟨h3, h4⟩ := svL_k f φ ψ hf r (f x s).2
    refine ⟨?_, ?_⟩
    · show (svL f r (f x s).2).2.k = s.k + (φ x + (r.map φ).sum)
      rw [h3, h1]; omega
    · show (svL f r (f x s).2).2.l = s.l ++ (ψ (f x s).1 ++ ((svL f r (f x s).2).1.map ψ).flatten)
      rw [h4, h2, List.append_assoc]
theorem svT_k : ∀ (h : Nat) (t : T h) (s : SvS), (svT h t s).2.k = s.k + fr h t ∧ (svT h t s).2.l = s.l ++ pl h (svT h t s).1
  | 0, t, s => svN_k ..
  | h + 1, t, s => by
    obtain ⟨h1, h2⟩ := svL_k (svT h) (fr h) (pl h) (svT_k h) t.2 s
    obtain ⟨h3, h4⟩ := svN_k t.1 (Page.page 4 (nodeB (kidE h (svL (svT h) t.2 s).1))) (svL (svT h) t.2 s).2
    refine ⟨?_, ?_⟩
    · show (svN t.1 _ (svL (svT h) t.2 s).2).2.k = s.k + ((t.2.map (fr h)).sum + frN t.1)
      rw [h3, h1]; omega
    · show (svN t.1 _ (svL (svT h) t.2 s).2).2.l = s.l ++ (((svL (svT h) t.2 s).1.map (pl h)).flatten ++ [(svN t.1 (Page.page 4 (nodeB (kidE h (svL (svT h) t.2 s).1))) (svL (svT h) t.2 s).2).1.a])
      rw [h4, h2, List.append_assoc]
/-- None has a block yet. -/
def AllZ (h : Nat) (t : T h) : Prop := ∀ d ∈ nds h t, d.a = 0
theorem AllZ.kid {h : Nat} {t : T (h + 1)} (z : AllZ (h + 1) t) {k : T h} (hk : k ∈ t.2) : AllZ h k := fun d hd => z d (nds_kid hk hd)
def ioF (k n : Nat) : List Int := (List.range n).map fun (i : Nat) => (k : Int) + 1 + (i : Int)
theorem ioF_app (k n m : Nat) : ioF k n ++ ioF (k + n) m = ioF k (n + m) := by
  unfold ioF
  rw [List.range_add, List.map_append, List.map_map]
  congr 1
  refine List.map_congr_left fun i _ => ?_
  show ((k + n : Nat) : Int) + 1 + (i : Int) = (k : Int) + 1 + ((n + i : Nat) : Int)
  omega
theorem svN_z {d : NodeD} (X : List Int) (s : SvS) (z : d.a = 0) : (svN d X s).1.a = (s.k : Int) + 1 := by
  unfold svN
  rw [if_pos z]
/-- If none has one, they get them one by one. -/
theorem pl_z : ∀ (h : Nat) (t : T h) (s : SvS), AllZ h t → pl h (svT h t s).1 = ioF s.k (fr h t)
  | 0, t, s, z => by
    have z0 : t.1.a = 0 := z _ (.head _)
    show [(svN t.1 _ s).1.a] = ioF s.k (frN t.1)
    rw [svN_z _ _ z0, frN, if_pos z0]
    simp [ioF]
  | h + 1, t, s, z => by
    have z0 : t.1.a = 0 := z _ (.head _)
    have key : ∀ (ks : List (T h)) (s : SvS), (∀ k ∈ ks, AllZ h k) → ((svL (svT h) ks s).1.map (pl h)).flatten = ioF s.k ((ks.map (fr h)).sum) := fun ks => by
      induction ks with
      | nil => intro s _; rfl
      | cons x r ih =>
        intro s hz
        show pl h (svT h x s).1 ++ ((svL (svT h) r (svT h x s).2).1.map (pl h)).flatten = ioF s.k (fr h x + (r.map (fr h)).sum)
        rw [pl_z h x s (hz x (.head _)), ih _ (fun k hk => hz k (.tail _ hk)), (svT_k h x s).1, ioF_app]
    show ((svL (svT h) t.2 s).1.map (pl h)).flatten ++ [(svN t.1 _ (svL (svT h) t.2 s).2).1.a] = ioF s.k ((t.2.map (fr h)).sum + frN t.1)
    rw [key t.2 s fun k hk => z.kid hk, svN_z _ _ z0, (svL_k (svT h) (fr h) (pl h) (svT_k h) t.2 s).1, ← ioF_app, frN, if_pos z0]
    try simp [ioF]
theorem fr_z : ∀ (h : Nat) (t : T h), AllZ h t → fr h t = (nds h t).length
  | 0, t, z => by
    have z0 : t.1.a = 0 := z _ (.head _)
    show frN t.1 = 1
    rw [frN, if_pos z0]
  | h + 1, t, z => by
    have z0 : t.1.a = 0 := z _ (.head _)
    show (t.2.map (fr h)).sum + frN t.1 = ((t.2.map (nds h)).flatten).length + 1
    rw [frN, if_pos z0, List.length_flatten, List.map_map]
    congr 2
    exact List.map_congr_left fun k hk => fr_z h k (z.kid hk)
end Go.Proofs.YtaghmffgoomebaaGreat.Tr
