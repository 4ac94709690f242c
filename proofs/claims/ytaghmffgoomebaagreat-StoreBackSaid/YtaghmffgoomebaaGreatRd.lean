/- fix.Reader, by reckoned steps: what a reader's calls hand back, and what is left. -/
import Derived.Test.YtaghmffgoomebaaGreatPage3
import Derived.Test.YtaghmffgoomebaaGreatNd
set_option linter.unusedVariables false
set_option linter.unusedSimpArgs false
namespace Go.Proofs.YtaghmffgoomebaaGreat.Rd
open Go.RowKit Mem Gx Bytes Fix Reader
set_option maxRecDepth 100000
set_option maxHeartbeats 4000000
structure In (w : World) (g : Nat) (s : SlV) (L : List Int) (bad : Bool) : Prop where
 ok : s.Ok L.length
 b : w.heap[g]? = some (.cells [s.v, .bool bad].toArray 201 (0, 0))
 src : Sl w s.A 1 (IE .u8) L
 ne : ∀ b, (sl s.A 1 (IE .u8) L).S b → b ≠ g
theorem In.kn {w : World} {g : Nat} {s : SlV} {L : List Int} {bad : Bool} (h : In w g s L bad) : Kn [g] w w [blk g [s.v, .bool bad] 201] [sl s.A 1 (IE .u8) L] :=
 (Kn.startW h.b).argR h.src (by decide) (fun φ hφ b hb hb' => by
  obtain rfl := m1 hφ
  have : b = g := hb
  exact h.ne b hb' this)
theorem zdg {E : List Nat} {w0 w : World} {O R : List Fact} {g : Nat} {s : SlV} {L : List Int} {bad : Bool} (hk : Kn E w0 w O R) (ok : s.Ok L.length) (h1 : blk g [s.v, .bool bad] 201 ∈ O) (h2 : sl s.A 1 (IE .u8) L ∈ R) : In w g s L bad :=
 ⟨ok, hk.pO _ h1, hk.pR _ h2, fun b hb e => hk.disR _ h1 _ h2 b e hb⟩
theorem sub_S {s : SlV} {L : List Int} {k b : Nat} (h : (sl (shA s.A k s.c 1) 1 (IE .u8) (L.drop k)).S b) : (sl s.A 1 (IE .u8) L).S b := by
 have := @zfV Int _ s.A 1 (IE .u8) L k s.c L.length b
 rw [List.take_of_length_le (by rw [List.length_drop]; omega)] at this
 exact this h
structure Nx (s : SlV) (L M : List Int) (q : SlV) : Prop where
 ok : q.Ok M.length
 S : ∀ b, (sl q.A 1 (IE .u8) M).S b → (sl s.A 1 (IE .u8) L).S b
theorem zoi (g k : Nat) (s : SlV) (L : List Int) (bad : Bool) (w : World) (h : In w g s L bad) (h9 : L.length ≤ 100000) (hk9 : k ≤ 100000) :
 Calls Tryz.prog 129 [.pointer (some ⟨g, 0, none⟩), .int .i64 k].toArray w (RetW g 201 [sl s.A 1 (IE .u8) L] (fun q : SlV × SlV => q.1.Ok (tk L k).length ∧ Nx s L (rs L k) q.2) (fun q => q.1.v) (fun q => [q.2.v, .bool (rb L bad k)]) (fun q => [sl q.1.A 1 (IE .u8) (tk L k)]) (fun q => [sl q.2.A 1 (IE .u8) (rs L k)]) w) := by
 have hn := h.ok.n
 have hc := h.ok.c
 by_cases hkl : k ≤ L.length
 ·have e1 : tk L k = L.take k := if_pos hkl
  have e2 : rs L k = L.drop k := if_pos hkl
  have e3 : rb L bad k = bad := if_pos hkl
  rw [e1, e2, e3]
  refine zab T [g] [blk g [s.v, .bool bad] 201] [sl s.A 1 (IE .u8) L] Tryz.func129 rfl Tryz.ntmps129 rfl h.kn ?_
  (repeat' (first | (refine gH ?_; try intro _) | (refine gS ?_ ?_ <;> intro _) | fail))
  refine g_yd rfl rfl (Ys.yd (zaU hT k rfl rfl rfl rfl rfl (by omega))) ?_
  (repeat (refine gG ?_; try intro _))
  refine g_yd rfl rfl (Ys.yd (zav hT k rfl rfl rfl rfl rfl (by omega))) ?_
  (repeat (refine gG ?_; try intro _))
  refine g_own 0 5 1 (IE .u8) ?_
  refine zpQ k s.c mE (by omega) ?_
  refine zpS k s.c (L := L) mE (by omega) ?_
  refine g_mv rfl (zac (L := []) rfl (L.take k) rfl rfl rfl rfl zfm uD (zcG mE) (by rw [List.length_take]; omega) (by intro x j; rfl) (by simp only [maxLen, List.length_nil, List.length_take]; omega) (by simp only [List.length_nil, List.length_take]; omega) (Nat.zero_le _) (fun v => ?_))
  (repeat (refine gG ?_; try intro _))
  refine zaW _ uD (fun A2 c2 hA2 hA21 hA22 hA23 => ?_); subst hA2
  refine zad hT rfl rfl (.tmp rfl .nil) (fun w' hk => ?_)
  refine RetW.mk (⟨A2, _, c2⟩, ⟨shA s.A k s.c 1, s.n - k, s.c - k⟩) ⟨⟨rfl, hA21, hA22, hA23⟩, ⟨?_, fun b hb => sub_S hb⟩⟩ rfl hk sA (fun φ hφ => ?_)
  ·rw [List.length_drop]; exact h.ok.sub k hkl
  ·obtain rfl := m1 hφ
   exact ⟨mE, fun b hb => ⟨_, .head _, sub_S hb⟩⟩
 ·have e1 : tk L k = [] := if_neg hkl
  have e2 : rs L k = [] := if_neg hkl
  have e3 : rb L bad k = true := if_neg hkl
  rw [e1, e2, e3]
  refine zab T [g] [blk g [s.v, .bool bad] 201] [sl s.A 1 (IE .u8) L] Tryz.func129 rfl Tryz.ntmps129 rfl h.kn ?_
  refine zba none 1 (IE .u8) ?_
  refine zlR none 1 (IE .u8) ?_
  (repeat' (first | (refine gH ?_; try intro _) | (refine gS ?_ ?_ <;> intro _) | fail))
  refine zad hT rfl rfl (.tmp rfl .nil) (fun w' hk => ?_)
  refine RetW.mk (⟨none, 0, 0⟩, ⟨none, 0, 0⟩) ⟨SlV.zdx, ⟨SlV.zdx, fun b hb => absurd hb.1 (by simp)⟩⟩ rfl hk sA (fun φ hφ => ?_)
  obtain rfl := m1 hφ
  exact ⟨mE, fun b hb => absurd hb.1 (by simp)⟩
theorem ziW (g k : Nat) (s : SlV) (L : List Int) (bad : Bool) (w : World) (h : In w g s L bad) (hB : IsB L) (h9 : L.length ≤ 100000) (hk1 : 1 ≤ k) (hk8 : k ≤ 8) :
 Calls Tryz.prog 110 [.pointer (some ⟨g, 0, none⟩), .int .i64 k].toArray w (RetW g 201 [sl s.A 1 (IE .u8) L] (Nx s L (rs L k)) (fun _ => .int .u64 (num (tk L k))) (fun q => [q.v, .bool (rb L bad k)]) (fun _ => []) (fun q => [sl q.A 1 (IE .u8) (rs L k)]) w) := by
 refine zab T [g] [blk g [s.v, .bool bad] 201] [sl s.A 1 (IE .u8) L] Tryz.func110 rfl Tryz.ntmps110 rfl h.kn ?_
 (repeat (refine gG ?_; try intro _))
 refine g_yd rfl rfl (Ys.yd (zfo (k : Int) rfl rfl rfl (by split <;> omega))) ?_
 refine g_yd rfl rfl (Ys.yd (zgJ (k : Int) rfl rfl rfl (by split <;> omega))) ?_
 refine g_mv rfl ?_; refine zaE (fun w hk => zoi g k s L bad w (zdg hk h.ok mE mE) h9 (by omega)) rfl rfl rfl rfl rfl kR uD (fun ψ hψ => by first | (cases hψ; done) | (obtain rfl := m1 hψ; exact mE)) (fun _ => rfl) (fun _ => rfl) (fun q hq => ?_)
 have htl : (tk L k).length ≤ 8 := Nat.le_trans (zov L k) hk8
 refine cB (fun w hk => zgu q.1.A q.1.n q.1.c (tk L k) w hq.1.n hq.1.c hq.1.nil (hk.pO (sl q.1.A 1 (IE .u8) (tk L k)) mE) (zew hB k) (by rw [hq.1.n]; exact htl)) ?_
 (repeat (refine gG ?_; try intro _))
 refine zad hT rfl rfl (.tmp rfl .nil) (fun w' hk => ?_)
 refine RetW.mk q.2 hq.2 rfl hk sA (fun φ hφ => ?_)
 obtain rfl := m1 hφ
 exact ⟨mE, fun b hb => ⟨_, .head _, hq.2.S b hb⟩⟩
theorem u8_rd (g : Nat) (s : SlV) (L : List Int) (bad : Bool) (w : World) (h : In w g s L bad) (hB : IsB L) (h9 : L.length ≤ 100000) :
 Calls Tryz.prog 80 [.pointer (some ⟨g, 0, none⟩)].toArray w (RetW g 201 [sl s.A 1 (IE .u8) L] (Nx s L (rs L 1)) (fun _ => .int .i64 (num (tk L 1))) (fun q => [q.v, .bool (rb L bad 1)]) (fun _ => []) (fun q => [sl q.A 1 (IE .u8) (rs L 1)]) w) := by
 have b1 := (zca (zew hB 1)).1
 have b2 : num (tk L 1) < 256 := zgO hB 1 _ (by omega) (by decide)
 refine zab T [g] [blk g [s.v, .bool bad] 201] [sl s.A 1 (IE .u8) L] Tryz.func80 rfl Tryz.ntmps80 rfl h.kn ?_
 (repeat (refine gG ?_; try intro _))
 refine g_mv rfl ?_; refine zaE (fun w hk => ziW g 1 s L bad w (zdg hk h.ok mE mE) hB h9 (by omega) (by omega)) rfl rfl rfl rfl rfl kR uD (fun ψ hψ => by first | (cases hψ; done) | (obtain rfl := m1 hψ; exact mE)) (fun _ => rfl) (fun _ => rfl) (fun q hq => ?_)
 (repeat (refine gG ?_; try intro _))
 refine zad hT rfl rfl (.tmp rfl .nil) (fun w' hk => ?_)
 refine RetW.mk q hq rfl hk sA (fun φ hφ => ?_)
 obtain rfl := m1 hφ
 exact ⟨mE, fun b hb => ⟨_, .head _, hq.S b hb⟩⟩
theorem u16_rd (g : Nat) (s : SlV) (L : List Int) (bad : Bool) (w : World) (h : In w g s L bad) (hB : IsB L) (h9 : L.length ≤ 100000) :
 Calls Tryz.prog 111 [.pointer (some ⟨g, 0, none⟩)].toArray w (RetW g 201 [sl s.A 1 (IE .u8) L] (Nx s L (rs L 2)) (fun _ => .int .i64 (num (tk L 2))) (fun q => [q.v, .bool (rb L bad 2)]) (fun _ => []) (fun q => [sl q.A 1 (IE .u8) (rs L 2)]) w) := by
 have b1 := (zca (zew hB 2)).1
 have b2 : num (tk L 2) < 65536 := zgO hB 2 _ (by omega) (by decide)
 refine zab T [g] [blk g [s.v, .bool bad] 201] [sl s.A 1 (IE .u8) L] Tryz.func111 rfl Tryz.ntmps111 rfl h.kn ?_
 (repeat (refine gG ?_; try intro _))
 refine g_mv rfl ?_; refine zaE (fun w hk => ziW g 2 s L bad w (zdg hk h.ok mE mE) hB h9 (by omega) (by omega)) rfl rfl rfl rfl rfl kR uD (fun ψ hψ => by first | (cases hψ; done) | (obtain rfl := m1 hψ; exact mE)) (fun _ => rfl) (fun _ => rfl) (fun q hq => ?_)
 (repeat (refine gG ?_; try intro _))
 refine zad hT rfl rfl (.tmp rfl .nil) (fun w' hk => ?_)
 refine RetW.mk q hq rfl hk sA (fun φ hφ => ?_)
 obtain rfl := m1 hφ
 exact ⟨mE, fun b hb => ⟨_, .head _, hq.S b hb⟩⟩
theorem u32_rd (g : Nat) (s : SlV) (L : List Int) (bad : Bool) (w : World) (h : In w g s L bad) (hB : IsB L) (h9 : L.length ≤ 100000) :
 Calls Tryz.prog 82 [.pointer (some ⟨g, 0, none⟩)].toArray w (RetW g 201 [sl s.A 1 (IE .u8) L] (Nx s L (rs L 4)) (fun _ => .int .u32 (num (tk L 4))) (fun q => [q.v, .bool (rb L bad 4)]) (fun _ => []) (fun q => [sl q.A 1 (IE .u8) (rs L 4)]) w) := by
 have b1 := (zca (zew hB 4)).1
 have b2 : num (tk L 4) < 4294967296 := zgO hB 4 _ (by omega) (by decide)
 refine zab T [g] [blk g [s.v, .bool bad] 201] [sl s.A 1 (IE .u8) L] Tryz.func82 rfl Tryz.ntmps82 rfl h.kn ?_
 (repeat (refine gG ?_; try intro _))
 refine g_mv rfl ?_; refine zaE (fun w hk => ziW g 4 s L bad w (zdg hk h.ok mE mE) hB h9 (by omega) (by omega)) rfl rfl rfl rfl rfl kR uD (fun ψ hψ => by first | (cases hψ; done) | (obtain rfl := m1 hψ; exact mE)) (fun _ => rfl) (fun _ => rfl) (fun q hq => ?_)
 (repeat (refine gG ?_; try intro _))
 refine zad hT rfl rfl (.tmp rfl .nil) (fun w' hk => ?_)
 refine RetW.mk q hq rfl hk sA (fun φ hφ => ?_)
 obtain rfl := m1 hφ
 exact ⟨mE, fun b hb => ⟨_, .head _, hq.S b hb⟩⟩
theorem u64_rd (g : Nat) (s : SlV) (L : List Int) (bad : Bool) (w : World) (h : In w g s L bad) (hB : IsB L) (h9 : L.length ≤ 100000) :
 Calls Tryz.prog 112 [.pointer (some ⟨g, 0, none⟩)].toArray w (RetW g 201 [sl s.A 1 (IE .u8) L] (Nx s L (rs L 8)) (fun _ => .int .u64 (num (tk L 8))) (fun q => [q.v, .bool (rb L bad 8)]) (fun _ => []) (fun q => [sl q.A 1 (IE .u8) (rs L 8)]) w) := by
 have b1 := (zca (zew hB 8)).1
 have b2 : num (tk L 8) < 18446744073709551616 := zgO hB 8 _ (by omega) (by decide)
 refine zab T [g] [blk g [s.v, .bool bad] 201] [sl s.A 1 (IE .u8) L] Tryz.func112 rfl Tryz.ntmps112 rfl h.kn ?_
 (repeat (refine gG ?_; try intro _))
 refine g_mv rfl ?_; refine zaE (fun w hk => ziW g 8 s L bad w (zdg hk h.ok mE mE) hB h9 (by omega) (by omega)) rfl rfl rfl rfl rfl kR uD (fun ψ hψ => by first | (cases hψ; done) | (obtain rfl := m1 hψ; exact mE)) (fun _ => rfl) (fun _ => rfl) (fun q hq => ?_)
 (repeat (refine gG ?_; try intro _))
 refine zad hT rfl rfl (.tmp rfl .nil) (fun w' hk => ?_)
 refine RetW.mk q hq rfl hk sA (fun φ hφ => ?_)
 obtain rfl := m1 hφ
 exact ⟨mE, fun b hb => ⟨_, .head _, hq.S b hb⟩⟩
theorem Kn.argRow {E : List Nat} {w : World} {R : List Fact} {g : Nat} {cs : List Value} {T : TypeId} (h : Kn E w w [] R) (hb : w.heap[g]? = some (.cells cs.toArray T (0, 0))) : Kn E w w [] (row g 0 cs :: R) :=
 h.addR _ (fun i v hv => by rw [Nat.zero_add, cell_of_row w g i cs.toArray T (0, 0) hb]; simpa using hv) (fun b hb' => by
  have : b = g := hb'
  subst this
  rcases Nat.lt_or_ge b w.heap.size with h' | h'
  ·exact h'
  ·rw [Array.getElem?_eq_none h'] at hb; cases hb) (fun φ hφ => by cases hφ)
theorem end_rd (g : Nat) (s : SlV) (L : List Int) (bad : Bool) (w : World) (h : In w g s L bad) (h9 : L.length ≤ 100000) :
 Calls Tryz.prog 83 [.pointer (some ⟨g, 0, none⟩)].toArray w fun e w' => e = .returned (.int .i64 (if bad = true then 20 else if 0 < L.length then 21 else 0)) ∧ Below w.heap.size w w' := by
 have hn := h.ok.n
 refine zab T [] [] [row g 0 [s.v, .bool bad]] Tryz.func83 rfl Tryz.ntmps83 rfl (Kn.argRow (Kn.start w) h.b) ?_
 cases bad
 ·(repeat' (first | (refine gH ?_; try intro _) | (refine gS ?_ ?_ <;> intro _) | fail))
  all_goals (refine zad hT rfl rfl (.tmp rfl .nil) (fun w' hk => ?_); refine ⟨?_, hk.toBelow⟩)
  ·rw [if_neg (by decide), if_pos (by omega)]; rfl
  ·rw [if_neg (by decide), if_neg (by omega)]; rfl
 ·(repeat' (first | (refine gH ?_; try intro _) | (refine gS ?_ ?_ <;> intro _) | fail))
  refine zad hT rfl rfl (.tmp rfl .nil) (fun w' hk => ?_)
  exact ⟨rfl, hk.toBelow⟩
theorem new_rd (s : SlV) (w : World) : Calls Tryz.prog 79 [s.v].toArray w (Ret (fun _ : Nat => True) (fun g => .pointer (some ⟨g, 0, none⟩)) (fun g => [blk g [s.v, .bool false] 201]) w) := by
 refine zab T [] [] [] Tryz.func79 rfl Tryz.ntmps79 rfl (Kn.start _) ?_
 (repeat (refine gG ?_; try intro _))
 rename_i g
 refine zad hT rfl rfl (.tmp rfl .nil) (fun w' hk => ?_)
 exact Ret.mk g trivial rfl hk sA
theorem at_tk {L : List Int} {o k : Nat} (h : o + k ≤ L.length) : tk (L.drop o) k = (L.drop o).take k ∧ rs (L.drop o) k = L.drop (o + k) ∧ ∀ bad, rb (L.drop o) bad k = bad := by
 have hl : k ≤ (L.drop o).length := by rw [List.length_drop]; omega
 exact ⟨if_pos hl, by unfold rs; rw [if_pos hl, List.drop_drop], fun bad => if_pos hl⟩
def Sh (M : List Int) (bad : Bool) (c : Nat) : Prop := bad = true ∨ M.length < c
structure RS where
 q : SlV
 M : List Int
 bad : Bool
 x : Int
structure RS.Ok (s : SlV) (L : List Int) (m : Int) (c : Nat) (r : RS) : Prop where
 nx : Nx s L r.M r.q
 isB : IsB r.M
 len : r.M.length ≤ L.length
 sh : Sh r.M r.bad c
 x : 0 ≤ r.x ∧ r.x < m
structure Pos (L : List Int) (o : Nat) (M : List Int) (bad : Bool) : Prop where
 ok : o ≤ L.length → M = L.drop o ∧ bad = false
 no : L.length < o → bad = true
 nl : L.length < o → M = []
 isB : IsB M
 len : M.length ≤ L.length
theorem zkW {L : List Int} (h : IsB L) : Pos L 0 L false := ⟨fun _ => ⟨by simp, rfl⟩, fun h => by omega, fun h => by omega, h, Nat.le_refl _⟩
theorem znk {L M : List Int} {o k : Nat} {bad : Bool} (h : Pos L o M bad) : Pos L (o + k) (rs M k) (rb M bad k) := by
 refine ⟨fun hl => ?_, fun hl => ?_, fun hl => ?_, rs_isB h.isB k, Nat.le_trans (rs_len M k) h.len⟩
 ·obtain ⟨e1, e2⟩ := h.ok (by omega)
  subst e1
  subst e2
  obtain ⟨_, h2, h3⟩ := at_tk hl
  exact ⟨h2, h3 false⟩
 ·by_cases ho : o ≤ L.length
  ·obtain ⟨e1, e2⟩ := h.ok ho
   subst e1
   unfold rb
   rw [if_neg (by rw [List.length_drop]; omega)]
  ·have := h.no (by omega)
   subst this
   unfold rb
   split <;> rfl
 ·unfold rs
  by_cases ho : o ≤ L.length
  ·obtain ⟨e1, e2⟩ := h.ok ho
   subst e1
   rw [if_neg (by rw [List.length_drop]; omega)]
  ·rw [h.nl (by omega)]
   split <;> simp
theorem pos_tk {L M : List Int} {o k : Nat} {bad : Bool} (h : Pos L o M bad) (hl : o + k ≤ L.length) : tk M k = (L.drop o).take k := by
 obtain ⟨e1, e2⟩ := h.ok (by omega)
 subst e1
 exact (at_tk hl).1
structure PS (L : List Int) (s : SlV) (M : List Int) (o k : Nat) (m : Int) (r : RS) : Prop where
 nx : Nx s M r.M r.q
 pos : Pos L (o + k) r.M r.bad
 x : 0 ≤ r.x ∧ r.x < m
 val : o + k ≤ L.length → r.x = num ((L.drop o).take k)
abbrev RetP (L : List Int) (g : Nat) (s : SlV) (M : List Int) (o k : Nat) (m : Int) (vk : IntKind) (w : World) : Ending → World → Prop := RetW g 201 [sl s.A 1 (IE .u8) M] (PS L s M o k m) (fun r => .int vk r.x) (fun r => [r.q.v, .bool r.bad]) (fun _ => []) (fun r => [sl r.q.A 1 (IE .u8) r.M]) w
theorem p_of {L M : List Int} {g k o : Nat} {s : SlV} {bad : Bool} {P : Program} {fid : FuncId} {args : Array Value} {w : World} {m : Int} {vk : IntKind} (hp : Pos L o M bad) (hm : num (tk M k) < m)
 (h : Calls P fid args w (RetW g 201 [sl s.A 1 (IE .u8) M] (Nx s M (rs M k)) (fun _ => .int vk (num (tk M k))) (fun q => [q.v, .bool (rb M bad k)]) (fun _ => []) (fun q => [sl q.A 1 (IE .u8) (rs M k)]) w)) : Calls P fid args w (RetP L g s M o k m vk w) :=
 h.mono fun e w' ⟨q, h1, h2, h3, h4⟩ => ⟨⟨q, rs M k, rb M bad k, num (tk M k)⟩, ⟨h1, znk hp, ⟨(zca (zew hp.isB k)).1, hm⟩, fun hl => by rw [← pos_tk hp hl]⟩, h2, h3, h4⟩
theorem u8_p (L M : List Int) (g o : Nat) (s : SlV) (bad : Bool) (w : World) (h9 : L.length ≤ 100000) (hp : Pos L o M bad) (h : In w g s M bad) : Calls Tryz.prog 80 [.pointer (some ⟨g, 0, none⟩)].toArray w (RetP L g s M o 1 256 .i64 w) :=
 p_of hp (zgO hp.isB 1 _ (by omega) (by decide)) (u8_rd g s M bad w h hp.isB (by have := hp.len; omega))
theorem u16_p (L M : List Int) (g o : Nat) (s : SlV) (bad : Bool) (w : World) (h9 : L.length ≤ 100000) (hp : Pos L o M bad) (h : In w g s M bad) : Calls Tryz.prog 111 [.pointer (some ⟨g, 0, none⟩)].toArray w (RetP L g s M o 2 65536 .i64 w) :=
 p_of hp (zgO hp.isB 2 _ (by omega) (by decide)) (u16_rd g s M bad w h hp.isB (by have := hp.len; omega))
theorem u32_p (L M : List Int) (g o : Nat) (s : SlV) (bad : Bool) (w : World) (h9 : L.length ≤ 100000) (hp : Pos L o M bad) (h : In w g s M bad) : Calls Tryz.prog 82 [.pointer (some ⟨g, 0, none⟩)].toArray w (RetP L g s M o 4 4294967296 .u32 w) :=
 p_of hp (zgO hp.isB 4 _ (by omega) (by decide)) (u32_rd g s M bad w h hp.isB (by have := hp.len; omega))
theorem u64_p (L M : List Int) (g o : Nat) (s : SlV) (bad : Bool) (w : World) (h9 : L.length ≤ 100000) (hp : Pos L o M bad) (h : In w g s M bad) : Calls Tryz.prog 112 [.pointer (some ⟨g, 0, none⟩)].toArray w (RetP L g s M o 8 18446744073709551616 .u64 w) :=
 p_of hp (zgO hp.isB 8 _ (by omega) (by decide)) (u64_rd g s M bad w h hp.isB (by have := hp.len; omega))
theorem zn2 (L M : List Int) (g o : Nat) (s : SlV) (bad : Bool) (w : World) (h9 : L.length ≤ 100000) (hp : Pos L o M bad) (h : In w g s M bad) : Calls Tryz.prog 83 [.pointer (some ⟨g, 0, none⟩)].toArray w fun e w' => e = .returned (.int .i64 (if L.length < o then 20 else if o < L.length then 21 else 0)) ∧ Below w.heap.size w w' := by
 refine (end_rd g s M bad w h (by have := hp.len; omega)).mono ?_
 rintro e w' ⟨h1, h2⟩
 refine ⟨?_, h2⟩
 rw [h1]
 congr 2
 by_cases ho : L.length < o
 ·rw [if_pos (hp.no ho), if_pos ho]
 ·obtain ⟨e1, e2⟩ := hp.ok (by omega)
  subst e1
  subst e2
  rw [if_neg (by decide), if_neg ho, List.length_drop]
  congr 1
  exact propext ⟨fun h => by omega, fun h => by omega⟩
end Go.Proofs.YtaghmffgoomebaaGreat.Rd
