/- fix.Reader: reading at a place; reading what isn't all there. -/
import Derived.Test.YtkdphoacniigjaaRd2
namespace Go.Proofs.Ytkdphoacniigjaa.Rd
open Go.RowKit Mem Gx Bytes Fix Reader
set_option linter.unusedVariables false
set_option linter.unusedSimpArgs false
set_option maxRecDepth 100000
set_option maxHeartbeats 1000000
theorem at_tk {L : List Int} {o k : Nat} (h : o + k ≤ L.length) : tk (L.drop o) k = (L.drop o).take k ∧ rs (L.drop o) k = L.drop (o + k) ∧ ∀ bad, rb (L.drop o) bad k = bad := by
  have hl : k ≤ (L.drop o).length := by rw [List.length_drop]; omega
  exact ⟨if_pos hl, by unfold rs; rw [if_pos hl, List.drop_drop], fun bad => if_pos hl⟩
/-- What isn't all there: c bytes are wanted. -/
def Sh (M : List Int) (bad : Bool) (c : Nat) : Prop := bad = true ∨ M.length < c
theorem sh_next {M : List Int} {bad : Bool} {c k : Nat} (h : Sh M bad c) (hk : k ≤ c) : Sh (rs M k) (rb M bad k) (c - k) := by
  unfold Sh rs rb at *
  by_cases hl : k ≤ M.length
  · rw [if_pos hl, if_pos hl]
    rcases h with h | h
    · exact .inl h
    · exact .inr (by rw [List.length_drop]; omega)
  · rw [if_neg hl, if_neg hl]; exact .inl rfl
theorem sh_bad {M : List Int} {bad : Bool} {k : Nat} (h : Sh M bad 0) : Sh (rs M k) (rb M bad k) 0 := by
  have hb : bad = true := h.resolve_right (by omega)
  subst hb
  unfold Sh rs rb
  split <;> exact .inl rfl
/-- What is left of a reader: its slice, its bytes, whether something was not there; a number. -/
structure RS where
  q : SlV
  M : List Int
  bad : Bool
  x : Int
structure RS.Ok (s : SlV) (L : List Int) (m : Int) (c : Nat) (r : RS) : Prop where
  nx : Nx s L r.M r.q
  isB : IsB r.M
  len : r.M.length ≤ L.length
  sh : Sh r.M r.bad c
  x : 0 ≤ r.x ∧ r.x < m
abbrev RetSh (g : Nat) (s : SlV) (L : List Int) (m : Int) (c : Nat) (vk : IntKind) (w : World) : Ending → World → Prop := RetW g 115 [sl s.A 1 (IE .u8) L] (RS.Ok s L m c) (fun r => .int vk r.x) (fun r => [r.q.v, .bool r.bad]) (fun _ => []) (fun r => [sl r.q.A 1 (IE .u8) r.M]) w
abbrev RetAt (g o k : Nat) (s : SlV) (L : List Int) (vk : IntKind) (w : World) : Ending → World → Prop := RetW g 115 [sl s.A 1 (IE .u8) (L.drop o)] (Nx s (L.drop o) (L.drop (o + k))) (fun _ => .int vk (num ((L.drop o).take k))) (fun q => [q.v, .bool false]) (fun _ => []) (fun q => [sl q.A 1 (IE .u8) (L.drop (o + k))]) w
theorem sh_of {g k c c' : Nat} {s : SlV} {L : List Int} {bad : Bool} {P : Program} {fid : FuncId} {args : Array Value} {w : World} {m : Int} {vk : IntKind} (hB : IsB L) (hs : Sh L bad c) (hc : c' = c - k) (hkc : k ≤ c ∨ c = 0) (hm : ∀ L : List Int, IsB L → num (tk L k) < m)
    (h : Calls P fid args w (RetW g 115 [sl s.A 1 (IE .u8) L] (Nx s L (rs L k)) (fun _ => .int vk (num (tk L k))) (fun q => [q.v, .bool (rb L bad k)]) (fun _ => []) (fun q => [sl q.A 1 (IE .u8) (rs L k)]) w)) :
    Calls P fid args w (RetW g 115 [sl s.A 1 (IE .u8) L] (RS.Ok s L m c') (fun r => .int vk r.x) (fun r => [r.q.v, .bool r.bad]) (fun _ => []) (fun r => [sl r.q.A 1 (IE .u8) r.M]) w) :=
  h.mono fun e w' ⟨q, h1, h2, h3, h4⟩ => ⟨⟨q, rs L k, rb L bad k, num (tk L k)⟩, ⟨h1, rs_isB hB k, rs_len L k, by
    subst hc
    rcases hkc with h | h
    · exact sh_next hs h
    · subst h; rw [Nat.zero_sub]; exact sh_bad hs, (num_bd (tk_isB hB k)).1, hm L hB⟩, h2, h3, h4⟩
theorem u8_sh (g c c' : Nat) (s : SlV) (L : List Int) (bad : Bool) (w : World) (h : In w g s L bad) (hB : IsB L) (h9 : L.length ≤ 100000) (hs : Sh L bad c) (hc : c' = c - 1) :
    Calls Try.prog 69 [.pointer (some ⟨g, 0, none⟩)].toArray w (RetSh g s L 256 c' .i64 w) :=
  sh_of hB hs hc (by omega) (fun L hB => tk_lt hB 1 256 (by omega) (by decide)) (u8_rd g s L bad w h hB h9)
theorem u16_sh (g c c' : Nat) (s : SlV) (L : List Int) (bad : Bool) (w : World) (h : In w g s L bad) (hB : IsB L) (h9 : L.length ≤ 100000) (hs : Sh L bad c) (hc : c' = c - 2) (hc2 : 2 ≤ c ∨ c = 0) :
    Calls Try.prog 70 [.pointer (some ⟨g, 0, none⟩)].toArray w (RetSh g s L 65536 c' .i64 w) :=
  sh_of hB hs hc hc2 (fun L hB => tk_lt hB 2 65536 (by omega) (by decide)) (u16_rd g s L bad w h hB h9)
theorem u64_sh (g c c' : Nat) (s : SlV) (L : List Int) (bad : Bool) (w : World) (h : In w g s L bad) (hB : IsB L) (h9 : L.length ≤ 100000) (hs : Sh L bad c) (hc : c' = c - 8) (hc2 : 8 ≤ c ∨ c = 0) :
    Calls Try.prog 71 [.pointer (some ⟨g, 0, none⟩)].toArray w (RetSh g s L 18446744073709551616 c' .u64 w) :=
  sh_of hB hs hc hc2 (fun L hB => tk_lt hB 8 18446744073709551616 (by omega) (by decide)) (u64_rd g s L bad w h hB h9)
theorem at_of {g k o : Nat} {s : SlV} {L : List Int} {P : Program} {fid : FuncId} {args : Array Value} {w : World} {vk : IntKind} (hl : o + k ≤ L.length)
    (h : Calls P fid args w (RetW g 115 [sl s.A 1 (IE .u8) (L.drop o)] (Nx s (L.drop o) (rs (L.drop o) k)) (fun _ => .int vk (num (tk (L.drop o) k))) (fun q => [q.v, .bool (rb (L.drop o) false k)]) (fun _ => []) (fun q => [sl q.A 1 (IE .u8) (rs (L.drop o) k)]) w)) :
    Calls P fid args w (RetW g 115 [sl s.A 1 (IE .u8) (L.drop o)] (Nx s (L.drop o) (L.drop (o + k))) (fun _ => .int vk (num ((L.drop o).take k))) (fun q => [q.v, .bool false]) (fun _ => []) (fun q => [sl q.A 1 (IE .u8) (L.drop (o + k))]) w) := by
  obtain ⟨h1, h2, h3⟩ := at_tk hl
  rw [h1, h2, h3] at h
  exact h
theorem u8_at (g o : Nat) (s : SlV) (L : List Int) (w : World) (hB : IsB L) (h9 : L.length ≤ 100000) (hl : o + 1 ≤ L.length) (h : In w g s (L.drop o) false) :
    Calls Try.prog 69 [.pointer (some ⟨g, 0, none⟩)].toArray w (RetAt g o 1 s L .i64 w) := at_of hl (u8_rd g s (L.drop o) false w h (hB.drop o) (by rw [List.length_drop]; omega))
theorem u16_at (g o : Nat) (s : SlV) (L : List Int) (w : World) (hB : IsB L) (h9 : L.length ≤ 100000) (hl : o + 2 ≤ L.length) (h : In w g s (L.drop o) false) :
    Calls Try.prog 70 [.pointer (some ⟨g, 0, none⟩)].toArray w (RetAt g o 2 s L .i64 w) := at_of hl (u16_rd g s (L.drop o) false w h (hB.drop o) (by rw [List.length_drop]; omega))
theorem u32_at (g o : Nat) (s : SlV) (L : List Int) (w : World) (hB : IsB L) (h9 : L.length ≤ 100000) (hl : o + 4 ≤ L.length) (h : In w g s (L.drop o) false) :
    Calls Try.prog 75 [.pointer (some ⟨g, 0, none⟩)].toArray w (RetAt g o 4 s L .u32 w) := at_of hl (u32_rd g s (L.drop o) false w h (hB.drop o) (by rw [List.length_drop]; omega))
theorem u64_at (g o : Nat) (s : SlV) (L : List Int) (w : World) (hB : IsB L) (h9 : L.length ≤ 100000) (hl : o + 8 ≤ L.length) (h : In w g s (L.drop o) false) :
    Calls Try.prog 71 [.pointer (some ⟨g, 0, none⟩)].toArray w (RetAt g o 8 s L .u64 w) := at_of hl (u64_rd g s (L.drop o) false w h (hB.drop o) (by rw [List.length_drop]; omega))
end Go.Proofs.Ytkdphoacniigjaa.Rd
