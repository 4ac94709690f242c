/- fix.Reader: at a place of the bytes, or behind their end. -/
import Derived.Test.YtkdphoacniigjaaRd3
namespace Go.Proofs.Ytkdphoacniigjaa.Rd
open Go.RowKit Mem Gx Bytes Fix Reader
set_option linter.unusedVariables false
set_option linter.unusedSimpArgs false
set_option maxRecDepth 100000
set_option maxHeartbeats 1000000
/-- What a reader of L holds that has been asked for o bytes. -/
structure Pos (L : List Int) (o : Nat) (M : List Int) (bad : Bool) : Prop where
  ok : o ≤ L.length → M = L.drop o ∧ bad = false
  no : L.length < o → bad = true
  isB : IsB M
  len : M.length ≤ L.length
theorem pos_start {L : List Int} (h : IsB L) : Pos L 0 L false := ⟨fun _ => ⟨by simp, rfl⟩, fun h => by omega, h, Nat.le_refl _⟩
theorem pos_next {L M : List Int} {o k : Nat} {bad : Bool} (h : Pos L o M bad) : Pos L (o + k) (rs M k) (rb M bad k) := by
  refine ⟨fun hl => ?_, fun hl => ?_, rs_isB h.isB k, Nat.le_trans (rs_len M k) h.len⟩
  · obtain ⟨e1, e2⟩ := h.ok (by omega)
    subst e1
    subst e2
    obtain ⟨_, h2, h3⟩ := at_tk hl
    exact ⟨h2, h3 false⟩
  · by_cases ho : o ≤ L.length
    · obtain ⟨e1, e2⟩ := h.ok ho
      subst e1
      unfold rb
      rw [if_neg (by rw [List.length_drop]; omega)]
    · have := h.no (by omega)
      subst this
      unfold rb
      split <;> rfl
theorem pos_tk {L M : List Int} {o k : Nat} {bad : Bool} (h : Pos L o M bad) (hl : o + k ≤ L.length) : tk M k = (L.drop o).take k := by
  obtain ⟨e1, e2⟩ := h.ok (by omega)
  subst e1
  exact (at_tk hl).1
/-- A reader's slice, bytes, state, and what was read. -/
structure PS (L : List Int) (s : SlV) (M : List Int) (o k : Nat) (m : Int) (r : RS) : Prop where
  nx : Nx s M r.M r.q
  pos : Pos L (o + k) r.M r.bad
  x : 0 ≤ r.x ∧ r.x < m
  val : o + k ≤ L.length → r.x = num ((L.drop o).take k)
abbrev RetP (L : List Int) (g : Nat) (s : SlV) (M : List Int) (o k : Nat) (m : Int) (vk : IntKind) (w : World) : Ending → World → Prop := RetW g 115 [sl s.A 1 (IE .u8) M] (PS L s M o k m) (fun r => .int vk r.x) (fun r => [r.q.v, .bool r.bad]) (fun _ => []) (fun r => [sl r.q.A 1 (IE .u8) r.M]) w
theorem p_of {L M : List Int} {g k o : Nat} {s : SlV} {bad : Bool} {P : Program} {fid : FuncId} {args : Array Value} {w : World} {m : Int} {vk : IntKind} (hp : Pos L o M bad) (hm : num (tk M k) < m)
    (h : Calls P fid args w (RetW g 115 [sl s.A 1 (IE .u8) M] (Nx s M (rs M k)) (fun _ => .int vk (num (tk M k))) (fun q => [q.v, .bool (rb M bad k)]) (fun _ => []) (fun q => [sl q.A 1 (IE .u8) (rs M k)]) w)) : Calls P fid args w (RetP L g s M o k m vk w) :=
  h.mono fun e w' ⟨q, h1, h2, h3, h4⟩ => ⟨⟨q, rs M k, rb M bad k, num (tk M k)⟩, ⟨h1, pos_next hp, ⟨(num_bd (tk_isB hp.isB k)).1, hm⟩, fun hl => by rw [← pos_tk hp hl]⟩, h2, h3, h4⟩
theorem u8_p (L M : List Int) (g o : Nat) (s : SlV) (bad : Bool) (w : World) (h9 : L.length ≤ 100000) (hp : Pos L o M bad) (h : In w g s M bad) : Calls Try.prog 69 [.pointer (some ⟨g, 0, none⟩)].toArray w (RetP L g s M o 1 256 .i64 w) :=
  p_of hp (tk_lt hp.isB 1 _ (by omega) (by decide)) (u8_rd g s M bad w h hp.isB (by have := hp.len; omega))
theorem u16_p (L M : List Int) (g o : Nat) (s : SlV) (bad : Bool) (w : World) (h9 : L.length ≤ 100000) (hp : Pos L o M bad) (h : In w g s M bad) : Calls Try.prog 70 [.pointer (some ⟨g, 0, none⟩)].toArray w (RetP L g s M o 2 65536 .i64 w) :=
  p_of hp (tk_lt hp.isB 2 _ (by omega) (by decide)) (u16_rd g s M bad w h hp.isB (by have := hp.len; omega))
theorem u32_p (L M : List Int) (g o : Nat) (s : SlV) (bad : Bool) (w : World) (h9 : L.length ≤ 100000) (hp : Pos L o M bad) (h : In w g s M bad) : Calls Try.prog 75 [.pointer (some ⟨g, 0, none⟩)].toArray w (RetP L g s M o 4 4294967296 .u32 w) :=
  p_of hp (tk_lt hp.isB 4 _ (by omega) (by decide)) (u32_rd g s M bad w h hp.isB (by have := hp.len; omega))
theorem u64_p (L M : List Int) (g o : Nat) (s : SlV) (bad : Bool) (w : World) (h9 : L.length ≤ 100000) (hp : Pos L o M bad) (h : In w g s M bad) : Calls Try.prog 71 [.pointer (some ⟨g, 0, none⟩)].toArray w (RetP L g s M o 8 18446744073709551616 .u64 w) :=
  p_of hp (tk_lt hp.isB 8 _ (by omega) (by decide)) (u64_rd g s M bad w h hp.isB (by have := hp.len; omega))
/-- Bytes that were read, and what is left. -/
structure BS2 where
  d : SlV
  D : List Int
  q : SlV
  M : List Int
  bad : Bool
structure PB (L : List Int) (s : SlV) (M : List Int) (o k : Nat) (r : BS2) : Prop where
  nx : Nx s M r.M r.q
  pos : Pos L (o + k) r.M r.bad
  ok : r.d.Ok r.D.length
  len : r.D.length ≤ k
  isB : IsB r.D
  val : o + k ≤ L.length → r.D = (L.drop o).take k
theorem bytes_p (L M : List Int) (g o k : Nat) (s : SlV) (bad : Bool) (w : World) (x : Int) (hx : x = k) (h9 : L.length ≤ 100000) (hk9 : k ≤ 100000) (hp : Pos L o M bad) (h : In w g s M bad) : Calls Try.prog 72 [.pointer (some ⟨g, 0, none⟩), .int .i64 x].toArray w
    (RetW g 115 [sl s.A 1 (IE .u8) M] (PB L s M o k) (fun r => r.d.v) (fun r => [r.q.v, .bool r.bad]) (fun r => [sl r.d.A 1 (IE .u8) r.D]) (fun r => [sl r.q.A 1 (IE .u8) r.M]) w) := by
  subst hx
  exact (bytes_rd g k s M bad w h (by have := hp.len; omega) hk9).mono fun e w' ⟨q, h1, h2, h3, h4⟩ => ⟨⟨q.1, tk M k, q.2, rs M k, rb M bad k⟩, ⟨h1.2, pos_next hp, h1.1, tk_len M k, tk_isB hp.isB k, fun hl => pos_tk hp hl⟩, h2, h3, h4⟩
theorem end_p (L M : List Int) (g o : Nat) (s : SlV) (bad : Bool) (w : World) (h9 : L.length ≤ 100000) (hp : Pos L o M bad) (h : In w g s M bad) : Calls Try.prog 73 [.pointer (some ⟨g, 0, none⟩)].toArray w fun e w' => e = .returned (.int .i64 (if L.length < o then 20 else if o < L.length then 21 else 0)) ∧ Below w.heap.size w w' := by
  refine (end_rd g s M bad w h (by have := hp.len; omega)).mono ?_
  rintro e w' ⟨h1, h2⟩
  refine ⟨?_, h2⟩
  rw [h1]
  congr 2
  by_cases ho : L.length < o
  · rw [if_pos (hp.no ho), if_pos ho]
  · obtain ⟨e1, e2⟩ := hp.ok (by omega)
    subst e1
    subst e2
    rw [if_neg (by decide), if_neg ho, List.length_drop]
    congr 1
    exact propext ⟨fun h => by omega, fun h => by omega⟩
end Go.Proofs.Ytkdphoacniigjaa.Rd
