/- fix.Reader, by reckoned steps: what a reader's calls hand back, and what is left. fix.Reader's Left. -/
import Derived.Test.YteajefmnbalofaaPage8
import Derived.Test.YteajefmnbalofaaGxC
namespace Go.Proofs.Yteajefmnbalofaa.Rd
open Go.RowKit Mem Gx Bytes Fix Reader
set_option linter.unusedVariables false
set_option linter.unusedSimpArgs false
set_option maxRecDepth 100000
set_option maxHeartbeats 4000000
/-- A reader in block g. -/
structure In (w : World) (g : Nat) (s : SlV) (L : List Int) (bad : Bool) : Prop where
  ok : s.Ok L.length
  b : w.heap[g]? = some (.cells [s.v, .bool bad].toArray 157 (0, 0))
  src : Sl w s.A 1 (IE .u8) L
  ne : ∀ b, (sl s.A 1 (IE .u8) L).S b → b ≠ g
theorem In.kn {w : World} {g : Nat} {s : SlV} {L : List Int} {bad : Bool} (h : In w g s L bad) : Kn [g] w w [blk g [s.v, .bool bad] 157] [sl s.A 1 (IE .u8) L] :=
  (Kn.startW h.b).argR h.src (by decide) (fun φ hφ b hb hb' => by
    obtain rfl := List.mem_singleton.1 hφ
    have : b = g := hb
    exact h.ne b hb' this)
/-- From the facts. -/
theorem in_of {E : List Nat} {w0 w : World} {O R : List Fact} {g : Nat} {s : SlV} {L : List Int} {bad : Bool} (hk : Kn E w0 w O R) (ok : s.Ok L.length) (h1 : blk g [s.v, .bool bad] 157 ∈ O) (h2 : sl s.A 1 (IE .u8) L ∈ R) : In w g s L bad :=
  ⟨ok, hk.pO _ h1, hk.pR _ h2, fun b hb e => hk.disR _ h1 _ h2 b e hb⟩
theorem sub_S {s : SlV} {L : List Int} {k b : Nat} (h : (sl (shA s.A k s.c 1) 1 (IE .u8) (L.drop k)).S b) : (sl s.A 1 (IE .u8) L).S b := by
  have := @sl_sub_S Int _ s.A 1 (IE .u8) L k s.c L.length b
  rw [List.take_of_length_le (by rw [List.length_drop]; omega)] at this
  exact this h
/-- What is left, as a slice. -/
structure Nx (s : SlV) (L M : List Int) (q : SlV) : Prop where
  ok : q.Ok M.length
  S : ∀ b, (sl q.A 1 (IE .u8) M).S b → (sl s.A 1 (IE .u8) L).S b
theorem bytes_rd (g k : Nat) (s : SlV) (L : List Int) (bad : Bool) (w : World) (h : In w g s L bad) (h9 : L.length ≤ 100000) (hk9 : k ≤ 100000) :
    Calls Try.prog 79 [.pointer (some ⟨g, 0, none⟩), .int .i64 k].toArray w (RetW g 157 [sl s.A 1 (IE .u8) L] (fun q : SlV × SlV => q.1.Ok (tk L k).length ∧ Nx s L (rs L k) q.2) (fun q => q.1.v) (fun q => [q.2.v, .bool (rb L bad k)]) (fun q => [sl q.1.A 1 (IE .u8) (tk L k)]) (fun q => [sl q.2.A 1 (IE .u8) (rs L k)]) w) := by
  have hn := h.ok.n
  have hc := h.ok.c
  by_cases hkl : k ≤ L.length
  · have e1 : tk L k = L.take k := if_pos hkl
    have e2 : rs L k = L.drop k := if_pos hkl
    have e3 : rb L bad k = bad := if_pos hkl
    rw [e1, e2, e3]
    refine g_enter0 T [g] [blk g [s.v, .bool bad] 157] [sl s.A 1 (IE .u8) L] Try.func79 rfl Try.ntmps79 rfl h.kn ?_
    (repeat' (first | (refine gG ?_; try intro _) | ((first | refine g_split rfl rfl tE (fun _ => ?_) (fun _ => ?_) | refine gk_cond rfl rfl tE (fun _ => ?_) (fun _ => ?_)) <;> (try first | (exfalso; omega; done) | (rename_i hx; exact absurd rfl hx) | (rename_i hx; cases hx; done)))))
    refine g_yd rfl rfl (Ys.yd (ys_slice_h hT k rfl rfl rfl rfl rfl (by omega))) ?_
    (repeat (refine gG ?_; try intro _))
    refine g_yd rfl rfl (Ys.yd (ys_slice_l hT k rfl rfl rfl rfl rfl (by omega))) ?_
    (repeat (refine gG ?_; try intro _))
    refine g_own 0 5 1 (IE .u8) ?_
    refine g_takeS k s.c mE (by omega) ?_
    refine g_dropS k s.c (L := L) mE (by omega) ?_
    refine g_mv rfl (mv_append (L := []) rfl (L.take k) rfl rfl rfl rfl elt_B (by intro _; first | ((repeat (first | with_reducible exact Upd.here _ | with_reducible apply Upd.there)); done) | ((repeat (first | exact Upd.here _ | apply Upd.there)); done) | fail) (src_R mE) (by rw [List.length_take]; omega) (by intro x j; rfl) (by simp only [maxLen, List.length_nil, List.length_take]; omega) (by simp only [List.length_nil, List.length_take]; omega) (Nat.zero_le _) (fun v => ?_))
    (repeat (refine gG ?_; try intro _))
    refine gk_freeze _ (by intro _; first | ((repeat (first | with_reducible exact Upd.here _ | with_reducible apply Upd.there)); done) | ((repeat (first | exact Upd.here _ | apply Upd.there)); done) | fail) (fun A2 c2 hA2 hA21 hA22 hA23 => ?_); subst hA2
    refine gk_ret hT rfl rfl (.tmp rfl .nil) (fun w' hk => ?_)
    refine RetW.mk (⟨A2, _, c2⟩, ⟨shA s.A k s.c 1, s.n - k, s.c - k⟩) ⟨⟨rfl, hA21, hA22, hA23⟩, ⟨?_, fun b hb => sub_S hb⟩⟩ rfl hk sA (fun φ hφ => ?_)
    · rw [List.length_drop]; exact h.ok.sub k hkl
    · obtain rfl := List.mem_singleton.1 hφ
      exact ⟨mE, fun b hb => ⟨_, .head _, sub_S hb⟩⟩
  · have e1 : tk L k = [] := if_neg hkl
    have e2 : rs L k = [] := if_neg hkl
    have e3 : rb L bad k = true := if_neg hkl
    rw [e1, e2, e3]
    refine g_enter0 T [g] [blk g [s.v, .bool bad] 157] [sl s.A 1 (IE .u8) L] Try.func79 rfl Try.ntmps79 rfl h.kn ?_
    refine gk_nilsl none 1 (IE .u8) ?_
    refine gk_nilR none 1 (IE .u8) ?_
    (repeat' (first | (refine gG ?_; try intro _) | ((first | refine g_split rfl rfl tE (fun _ => ?_) (fun _ => ?_) | refine gk_cond rfl rfl tE (fun _ => ?_) (fun _ => ?_)) <;> (try first | (exfalso; omega; done) | (rename_i hx; exact absurd rfl hx) | (rename_i hx; cases hx; done)))))
    refine gk_ret hT rfl rfl (.tmp rfl .nil) (fun w' hk => ?_)
    refine RetW.mk (⟨none, 0, 0⟩, ⟨none, 0, 0⟩) ⟨SlV.ok_nil, ⟨SlV.ok_nil, fun b hb => absurd hb.1 (by simp)⟩⟩ rfl hk sA (fun φ hφ => ?_)
    obtain rfl := List.mem_singleton.1 hφ
    exact ⟨mE, fun b hb => absurd hb.1 (by simp)⟩
/-! fix.Reader, by reckoned steps: numbers; its end. -/
theorem num_rd (g k : Nat) (s : SlV) (L : List Int) (bad : Bool) (w : World) (h : In w g s L bad) (hB : IsB L) (h9 : L.length ≤ 100000) (hk1 : 1 ≤ k) (hk8 : k ≤ 8) :
    Calls Try.prog 90 [.pointer (some ⟨g, 0, none⟩), .int .i64 k].toArray w (RetW g 157 [sl s.A 1 (IE .u8) L] (Nx s L (rs L k)) (fun _ => .int .u64 (num (tk L k))) (fun q => [q.v, .bool (rb L bad k)]) (fun _ => []) (fun q => [sl q.A 1 (IE .u8) (rs L k)]) w) := by
  refine g_enter0 T [g] [blk g [s.v, .bool bad] 157] [sl s.A 1 (IE .u8) L] Try.func90 rfl Try.ntmps90 rfl h.kn ?_
  (repeat (refine gG ?_; try intro _))
  refine g_yd rfl rfl (Ys.yd (ys_max (k : Int) rfl rfl rfl (by split <;> omega))) ?_
  refine g_yd rfl rfl (Ys.yd (ys_min (k : Int) rfl rfl rfl (by split <;> omega))) ?_
  refine g_mv rfl ?_; refine mv_call_w (fun w hk => bytes_rd g k s L bad w (in_of hk h.ok mE mE) h9 (by omega)) rfl rfl rfl rfl rfl (by kernel_rfl) (by intro _; first | ((repeat (first | with_reducible exact Upd.here _ | with_reducible apply Upd.there)); done) | ((repeat (first | exact Upd.here _ | apply Upd.there)); done) | fail) (fun ψ hψ => by first | (cases hψ; done) | (obtain rfl := List.mem_singleton.1 hψ; exact mE)) (fun _ => rfl) (fun _ => rfl) (fun q hq => ?_)
  have htl : (tk L k).length ≤ 8 := Nat.le_trans (tk_len L k) hk8
  refine g_mv rfl ?_; refine mv_call_bel (fun w hk => get_any q.1.A q.1.n q.1.c (tk L k) w hq.1.n hq.1.c hq.1.nil (hk.pO (sl q.1.A 1 (IE .u8) (tk L k)) mE) (tk_isB hB k) (by rw [hq.1.n]; exact htl)) rfl rfl rfl rfl rfl (by kernel_rfl) ?_
  (repeat (refine gG ?_; try intro _))
  refine gk_ret hT rfl rfl (.tmp rfl .nil) (fun w' hk => ?_)
  refine RetW.mk q.2 hq.2 rfl hk sA (fun φ hφ => ?_)
  obtain rfl := List.mem_singleton.1 hφ
  exact ⟨mE, fun b hb => ⟨_, .head _, hq.2.S b hb⟩⟩
theorem u8_rd (g : Nat) (s : SlV) (L : List Int) (bad : Bool) (w : World) (h : In w g s L bad) (hB : IsB L) (h9 : L.length ≤ 100000) :
    Calls Try.prog 91 [.pointer (some ⟨g, 0, none⟩)].toArray w (RetW g 157 [sl s.A 1 (IE .u8) L] (Nx s L (rs L 1)) (fun _ => .int .i64 (num (tk L 1))) (fun q => [q.v, .bool (rb L bad 1)]) (fun _ => []) (fun q => [sl q.A 1 (IE .u8) (rs L 1)]) w) := by
  have b1 := (num_bd (tk_isB hB 1)).1
  have b2 : num (tk L 1) < 256 := tk_lt hB 1 _ (by omega) (by decide)
  refine g_enter0 T [g] [blk g [s.v, .bool bad] 157] [sl s.A 1 (IE .u8) L] Try.func91 rfl Try.ntmps91 rfl h.kn ?_
  (repeat (refine gG ?_; try intro _))
  refine g_mv rfl ?_; refine mv_call_w (fun w hk => num_rd g 1 s L bad w (in_of hk h.ok mE mE) hB h9 (by omega) (by omega)) rfl rfl rfl rfl rfl (by kernel_rfl) (by intro _; first | ((repeat (first | with_reducible exact Upd.here _ | with_reducible apply Upd.there)); done) | ((repeat (first | exact Upd.here _ | apply Upd.there)); done) | fail) (fun ψ hψ => by first | (cases hψ; done) | (obtain rfl := List.mem_singleton.1 hψ; exact mE)) (fun _ => rfl) (fun _ => rfl) (fun q hq => ?_)
  (repeat (refine gG ?_; try intro _))
  refine gk_ret hT rfl rfl (.tmp rfl .nil) (fun w' hk => ?_)
  refine RetW.mk q hq rfl hk sA (fun φ hφ => ?_)
  obtain rfl := List.mem_singleton.1 hφ
  exact ⟨mE, fun b hb => ⟨_, .head _, hq.S b hb⟩⟩
theorem u16_rd (g : Nat) (s : SlV) (L : List Int) (bad : Bool) (w : World) (h : In w g s L bad) (hB : IsB L) (h9 : L.length ≤ 100000) :
    Calls Try.prog 92 [.pointer (some ⟨g, 0, none⟩)].toArray w (RetW g 157 [sl s.A 1 (IE .u8) L] (Nx s L (rs L 2)) (fun _ => .int .i64 (num (tk L 2))) (fun q => [q.v, .bool (rb L bad 2)]) (fun _ => []) (fun q => [sl q.A 1 (IE .u8) (rs L 2)]) w) := by
  have b1 := (num_bd (tk_isB hB 2)).1
  have b2 : num (tk L 2) < 65536 := tk_lt hB 2 _ (by omega) (by decide)
  refine g_enter0 T [g] [blk g [s.v, .bool bad] 157] [sl s.A 1 (IE .u8) L] Try.func92 rfl Try.ntmps92 rfl h.kn ?_
  (repeat (refine gG ?_; try intro _))
  refine g_mv rfl ?_; refine mv_call_w (fun w hk => num_rd g 2 s L bad w (in_of hk h.ok mE mE) hB h9 (by omega) (by omega)) rfl rfl rfl rfl rfl (by kernel_rfl) (by intro _; first | ((repeat (first | with_reducible exact Upd.here _ | with_reducible apply Upd.there)); done) | ((repeat (first | exact Upd.here _ | apply Upd.there)); done) | fail) (fun ψ hψ => by first | (cases hψ; done) | (obtain rfl := List.mem_singleton.1 hψ; exact mE)) (fun _ => rfl) (fun _ => rfl) (fun q hq => ?_)
  (repeat (refine gG ?_; try intro _))
  refine gk_ret hT rfl rfl (.tmp rfl .nil) (fun w' hk => ?_)
  refine RetW.mk q hq rfl hk sA (fun φ hφ => ?_)
  obtain rfl := List.mem_singleton.1 hφ
  exact ⟨mE, fun b hb => ⟨_, .head _, hq.S b hb⟩⟩
theorem u64_rd (g : Nat) (s : SlV) (L : List Int) (bad : Bool) (w : World) (h : In w g s L bad) (hB : IsB L) (h9 : L.length ≤ 100000) :
    Calls Try.prog 77 [.pointer (some ⟨g, 0, none⟩)].toArray w (RetW g 157 [sl s.A 1 (IE .u8) L] (Nx s L (rs L 8)) (fun _ => .int .u64 (num (tk L 8))) (fun q => [q.v, .bool (rb L bad 8)]) (fun _ => []) (fun q => [sl q.A 1 (IE .u8) (rs L 8)]) w) := by
  have b1 := (num_bd (tk_isB hB 8)).1
  have b2 : num (tk L 8) < 18446744073709551616 := tk_lt hB 8 _ (by omega) (by decide)
  refine g_enter0 T [g] [blk g [s.v, .bool bad] 157] [sl s.A 1 (IE .u8) L] Try.func77 rfl Try.ntmps77 rfl h.kn ?_
  (repeat (refine gG ?_; try intro _))
  refine g_mv rfl ?_; refine mv_call_w (fun w hk => num_rd g 8 s L bad w (in_of hk h.ok mE mE) hB h9 (by omega) (by omega)) rfl rfl rfl rfl rfl (by kernel_rfl) (by intro _; first | ((repeat (first | with_reducible exact Upd.here _ | with_reducible apply Upd.there)); done) | ((repeat (first | exact Upd.here _ | apply Upd.there)); done) | fail) (fun ψ hψ => by first | (cases hψ; done) | (obtain rfl := List.mem_singleton.1 hψ; exact mE)) (fun _ => rfl) (fun _ => rfl) (fun q hq => ?_)
  (repeat (refine gG ?_; try intro _))
  refine gk_ret hT rfl rfl (.tmp rfl .nil) (fun w' hk => ?_)
  refine RetW.mk q hq rfl hk sA (fun φ hφ => ?_)
  obtain rfl := List.mem_singleton.1 hφ
  exact ⟨mE, fun b hb => ⟨_, .head _, hq.S b hb⟩⟩
theorem Kn.argRow {E : List Nat} {w : World} {R : List Fact} {g : Nat} {cs : List Value} {T : TypeId} (h : Kn E w w [] R) (hb : w.heap[g]? = some (.cells cs.toArray T (0, 0))) : Kn E w w [] (row g 0 cs :: R) :=
  h.addR _ (fun i v hv => by rw [Nat.zero_add, cell_of_row w g i cs.toArray T (0, 0) hb]; simpa using hv) (fun b hb' => by
    have : b = g := hb'
    subst this
    rcases Nat.lt_or_ge b w.heap.size with h' | h'
    · exact h'
    · rw [Array.getElem?_eq_none h'] at hb; cases hb) (fun φ hφ => by cases hφ)
theorem end_rd (g : Nat) (s : SlV) (L : List Int) (bad : Bool) (w : World) (h : In w g s L bad) (h9 : L.length ≤ 100000) :
    Calls Try.prog 93 [.pointer (some ⟨g, 0, none⟩)].toArray w fun e w' => e = .returned (.int .i64 (if bad = true then 20 else if 0 < L.length then 21 else 0)) ∧ Below w.heap.size w w' := by
  have hn := h.ok.n
  refine g_enter0 T [] [] [row g 0 [s.v, .bool bad]] Try.func93 rfl Try.ntmps93 rfl (Kn.argRow (Kn.start w) h.b) ?_
  cases bad
  · (repeat' (first | (refine gG ?_; try intro _) | ((first | refine g_split rfl rfl tE (fun _ => ?_) (fun _ => ?_) | refine gk_cond rfl rfl tE (fun _ => ?_) (fun _ => ?_)) <;> (try first | (exfalso; omega; done) | (rename_i hx; exact absurd rfl hx) | (rename_i hx; cases hx; done)))))
    all_goals (refine gk_ret hT rfl rfl (.tmp rfl .nil) (fun w' hk => ?_); refine ⟨?_, hk.toBelow⟩)
    · rw [if_neg (by decide), if_pos (by omega)]; rfl
    · rw [if_neg (by decide), if_neg (by omega)]; rfl
  · (repeat' (first | (refine gG ?_; try intro _) | ((first | refine g_split rfl rfl tE (fun _ => ?_) (fun _ => ?_) | refine gk_cond rfl rfl tE (fun _ => ?_) (fun _ => ?_)) <;> (try first | (exfalso; omega; done) | (rename_i hx; exact absurd rfl hx) | (rename_i hx; cases hx; done)))))
    refine gk_ret hT rfl rfl (.tmp rfl .nil) (fun w' hk => ?_)
    exact ⟨rfl, hk.toBelow⟩
theorem new_rd (s : SlV) (w : World) : Calls Try.prog 76 [s.v].toArray w (Ret (fun _ : Nat => True) (fun g => .pointer (some ⟨g, 0, none⟩)) (fun g => [blk g [s.v, .bool false] 157]) w) := by
  refine g_enter0 T [] [] [] Try.func76 rfl Try.ntmps76 rfl (Kn.start _) ?_
  (repeat (refine gG ?_; try intro _))
  rename_i g
  refine gk_ret hT rfl rfl (.tmp rfl .nil) (fun w' hk => ?_)
  exact Ret.mk g trivial rfl hk sA

/-! fix.Reader: reading at a place; reading what isn't all there. -/
theorem at_tk {L : List Int} {o k : Nat} (h : o + k ≤ L.length) : tk (L.drop o) k = (L.drop o).take k ∧ rs (L.drop o) k = L.drop (o + k) ∧ ∀ bad, rb (L.drop o) bad k = bad := by
  have hl : k ≤ (L.drop o).length := by rw [List.length_drop]; omega
  exact ⟨if_pos hl, by unfold rs; rw [if_pos hl, List.drop_drop], fun bad => if_pos hl⟩
/-- What isn't all there: c bytes are wanted. -/
def Sh (M : List Int) (bad : Bool) (c : Nat) : Prop := bad = true ∨ M.length < c
theorem sh_next {M : List Int} {bad : Bool} {c k : Nat} (h : Sh M bad c) (hk : k ≤ c) : Sh (rs M k) (rb M bad k) (c - k) := by
  unfold Sh rs rb at *
  by_cases hl : k ≤ M.length
  · rw [if_pos hl, if_pos hl]
    rcases h with h | h
    · exact .inl h
    · exact .inr (by rw [List.length_drop]; omega)
  · rw [if_neg hl, if_neg hl]; exact .inl rfl
theorem sh_bad {M : List Int} {bad : Bool} {k : Nat} (h : Sh M bad 0) : Sh (rs M k) (rb M bad k) 0 := by
  have hb : bad = true := h.resolve_right (by omega)
  subst hb
  unfold Sh rs rb
  split <;> exact .inl rfl
/-- What is left of a reader: its slice, its bytes, whether something was not there; a number. -/
structure RS where
  q : SlV
  M : List Int
  bad : Bool
  x : Int
structure RS.Ok (s : SlV) (L : List Int) (m : Int) (c : Nat) (r : RS) : Prop where
  nx : Nx s L r.M r.q
  isB : IsB r.M
  len : r.M.length ≤ L.length
  sh : Sh r.M r.bad c
  x : 0 ≤ r.x ∧ r.x < m
abbrev RetSh (g : Nat) (s : SlV) (L : List Int) (m : Int) (c : Nat) (vk : IntKind) (w : World) : Ending → World → Prop := RetW g 157 [sl s.A 1 (IE .u8) L] (RS.Ok s L m c) (fun r => .int vk r.x) (fun r => [r.q.v, .bool r.bad]) (fun _ => []) (fun r => [sl r.q.A 1 (IE .u8) r.M]) w
abbrev RetAt (g o k : Nat) (s : SlV) (L : List Int) (vk : IntKind) (w : World) : Ending → World → Prop := RetW g 157 [sl s.A 1 (IE .u8) (L.drop o)] (Nx s (L.drop o) (L.drop (o + k))) (fun _ => .int vk (num ((L.drop o).take k))) (fun q => [q.v, .bool false]) (fun _ => []) (fun q => [sl q.A 1 (IE .u8) (L.drop (o + k))]) w
theorem sh_of {g k c c' : Nat} {s : SlV} {L : List Int} {bad : Bool} {P : Program} {fid : FuncId} {args : Array Value} {w : World} {m : Int} {vk : IntKind} (hB : IsB L) (hs : Sh L bad c) (hc : c' = c - k) (hkc : k ≤ c ∨ c = 0) (hm : ∀ L : List Int, IsB L → num (tk L k) < m)
    (h : Calls P fid args w (RetW g 157 [sl s.A 1 (IE .u8) L] (Nx s L (rs L k)) (fun _ => .int vk (num (tk L k))) (fun q => [q.v, .bool (rb L bad k)]) (fun _ => []) (fun q => [sl q.A 1 (IE .u8) (rs L k)]) w)) :
    Calls P fid args w (RetW g 157 [sl s.A 1 (IE .u8) L] (RS.Ok s L m c') (fun r => .int vk r.x) (fun r => [r.q.v, .bool r.bad]) (fun _ => []) (fun r => [sl r.q.A 1 (IE .u8) r.M]) w) :=
  h.mono fun e w' ⟨q, h1, h2, h3, h4⟩ => ⟨⟨q, rs L k, rb L bad k, num (tk L k)⟩, ⟨h1, rs_isB hB k, rs_len L k, by
    subst hc
    rcases hkc with h | h
    · exact sh_next hs h
    · subst h; rw [Nat.zero_sub]; exact sh_bad hs, (num_bd (tk_isB hB k)).1, hm L hB⟩, h2, h3, h4⟩
theorem u8_sh (g c c' : Nat) (s : SlV) (L : List Int) (bad : Bool) (w : World) (h : In w g s L bad) (hB : IsB L) (h9 : L.length ≤ 100000) (hs : Sh L bad c) (hc : c' = c - 1) :
    Calls Try.prog 91 [.pointer (some ⟨g, 0, none⟩)].toArray w (RetSh g s L 256 c' .i64 w) :=
  sh_of hB hs hc (by omega) (fun L hB => tk_lt hB 1 256 (by omega) (by decide)) (u8_rd g s L bad w h hB h9)
theorem u16_sh (g c c' : Nat) (s : SlV) (L : List Int) (bad : Bool) (w : World) (h : In w g s L bad) (hB : IsB L) (h9 : L.length ≤ 100000) (hs : Sh L bad c) (hc : c' = c - 2) (hc2 : 2 ≤ c ∨ c = 0) :
    Calls Try.prog 92 [.pointer (some ⟨g, 0, none⟩)].toArray w (RetSh g s L 65536 c' .i64 w) :=
  sh_of hB hs hc hc2 (fun L hB => tk_lt hB 2 65536 (by omega) (by decide)) (u16_rd g s L bad w h hB h9)
theorem u64_sh (g c c' : Nat) (s : SlV) (L : List Int) (bad : Bool) (w : World) (h : In w g s L bad) (hB : IsB L) (h9 : L.length ≤ 100000) (hs : Sh L bad c) (hc : c' = c - 8) (hc2 : 8 ≤ c ∨ c = 0) :
    Calls Try.prog 77 [.pointer (some ⟨g, 0, none⟩)].toArray w (RetSh g s L 18446744073709551616 c' .u64 w) :=
  sh_of hB hs hc hc2 (fun L hB => tk_lt hB 8 18446744073709551616 (by omega) (by decide)) (u64_rd g s L bad w h hB h9)
theorem at_of {g k o : Nat} {s : SlV} {L : List Int} {P : Program} {fid : FuncId} {args : Array Value} {w : World} {vk : IntKind} (hl : o + k ≤ L.length)
    (h : Calls P fid args w (RetW g 157 [sl s.A 1 (IE .u8) (L.drop o)] (Nx s (L.drop o) (rs (L.drop o) k)) (fun _ => .int vk (num (tk (L.drop o) k))) (fun q => [q.v, .bool (rb (L.drop o) false k)]) (fun _ => []) (fun q => [sl q.A 1 (IE .u8) (rs (L.drop o) k)]) w)) :
    Calls P fid args w (RetW g 157 [sl s.A 1 (IE .u8) (L.drop o)] (Nx s (L.drop o) (L.drop (o + k))) (fun _ => .int vk (num ((L.drop o).take k))) (fun q => [q.v, .bool false]) (fun _ => []) (fun q => [sl q.A 1 (IE .u8) (L.drop (o + k))]) w) := by
  obtain ⟨h1, h2, h3⟩ := at_tk hl
  rw [h1, h2, h3] at h
  exact h
theorem u8_at (g o : Nat) (s : SlV) (L : List Int) (w : World) (hB : IsB L) (h9 : L.length ≤ 100000) (hl : o + 1 ≤ L.length) (h : In w g s (L.drop o) false) :
    Calls Try.prog 91 [.pointer (some ⟨g, 0, none⟩)].toArray w (RetAt g o 1 s L .i64 w) := at_of hl (u8_rd g s (L.drop o) false w h (hB.drop o) (by rw [List.length_drop]; omega))
theorem u16_at (g o : Nat) (s : SlV) (L : List Int) (w : World) (hB : IsB L) (h9 : L.length ≤ 100000) (hl : o + 2 ≤ L.length) (h : In w g s (L.drop o) false) :
    Calls Try.prog 92 [.pointer (some ⟨g, 0, none⟩)].toArray w (RetAt g o 2 s L .i64 w) := at_of hl (u16_rd g s (L.drop o) false w h (hB.drop o) (by rw [List.length_drop]; omega))
theorem u64_at (g o : Nat) (s : SlV) (L : List Int) (w : World) (hB : IsB L) (h9 : L.length ≤ 100000) (hl : o + 8 ≤ L.length) (h : In w g s (L.drop o) false) :
    Calls Try.prog 77 [.pointer (some ⟨g, 0, none⟩)].toArray w (RetAt g o 8 s L .u64 w) := at_of hl (u64_rd g s (L.drop o) false w h (hB.drop o) (by rw [List.length_drop]; omega))

/-! fix.Reader: at a place of the bytes, or behind their end. -/
/-- What a reader of L holds that has been asked for o bytes. -/
structure Pos (L : List Int) (o : Nat) (M : List Int) (bad : Bool) : Prop where
  ok : o ≤ L.length → M = L.drop o ∧ bad = false
  no : L.length < o → bad = true
  nl : L.length < o → M = []
  isB : IsB M
  len : M.length ≤ L.length
theorem pos_start {L : List Int} (h : IsB L) : Pos L 0 L false := ⟨fun _ => ⟨by simp, rfl⟩, fun h => by omega, fun h => by omega, h, Nat.le_refl _⟩
theorem pos_next {L M : List Int} {o k : Nat} {bad : Bool} (h : Pos L o M bad) : Pos L (o + k) (rs M k) (rb M bad k) := by
  refine ⟨fun hl => ?_, fun hl => ?_, fun hl => ?_, rs_isB h.isB k, Nat.le_trans (rs_len M k) h.len⟩
  · obtain ⟨e1, e2⟩ := h.ok (by omega)
    subst e1
    subst e2
    obtain ⟨_, h2, h3⟩ := at_tk hl
    exact ⟨h2, h3 false⟩
  · by_cases ho : o ≤ L.length
    · obtain ⟨e1, e2⟩ := h.ok ho
      subst e1
      unfold rb
      rw [if_neg (by rw [List.length_drop]; omega)]
    · have := h.no (by omega)
      subst this
      unfold rb
      split <;> rfl
  · unfold rs
    by_cases ho : o ≤ L.length
    · obtain ⟨e1, e2⟩ := h.ok ho
      subst e1
      rw [if_neg (by rw [List.length_drop]; omega)]
    · rw [h.nl (by omega)]
      split <;> simp
theorem pos_tk {L M : List Int} {o k : Nat} {bad : Bool} (h : Pos L o M bad) (hl : o + k ≤ L.length) : tk M k = (L.drop o).take k := by
  obtain ⟨e1, e2⟩ := h.ok (by omega)
  subst e1
  exact (at_tk hl).1
/-- A reader's slice, bytes, state, and what was read. -/
structure PS (L : List Int) (s : SlV) (M : List Int) (o k : Nat) (m : Int) (r : RS) : Prop where
  nx : Nx s M r.M r.q
  pos : Pos L (o + k) r.M r.bad
  x : 0 ≤ r.x ∧ r.x < m
  val : o + k ≤ L.length → r.x = num ((L.drop o).take k)
abbrev RetP (L : List Int) (g : Nat) (s : SlV) (M : List Int) (o k : Nat) (m : Int) (vk : IntKind) (w : World) : Ending → World → Prop := RetW g 157 [sl s.A 1 (IE .u8) M] (PS L s M o k m) (fun r => .int vk r.x) (fun r => [r.q.v, .bool r.bad]) (fun _ => []) (fun r => [sl r.q.A 1 (IE .u8) r.M]) w
theorem p_of {L M : List Int} {g k o : Nat} {s : SlV} {bad : Bool} {P : Program} {fid : FuncId} {args : Array Value} {w : World} {m : Int} {vk : IntKind} (hp : Pos L o M bad) (hm : num (tk M k) < m)
    (h : Calls P fid args w (RetW g 157 [sl s.A 1 (IE .u8) M] (Nx s M (rs M k)) (fun _ => .int vk (num (tk M k))) (fun q => [q.v, .bool (rb M bad k)]) (fun _ => []) (fun q => [sl q.A 1 (IE .u8) (rs M k)]) w)) : Calls P fid args w (RetP L g s M o k m vk w) :=
  h.mono fun e w' ⟨q, h1, h2, h3, h4⟩ => ⟨⟨q, rs M k, rb M bad k, num (tk M k)⟩, ⟨h1, pos_next hp, ⟨(num_bd (tk_isB hp.isB k)).1, hm⟩, fun hl => by rw [← pos_tk hp hl]⟩, h2, h3, h4⟩
theorem u8_p (L M : List Int) (g o : Nat) (s : SlV) (bad : Bool) (w : World) (h9 : L.length ≤ 100000) (hp : Pos L o M bad) (h : In w g s M bad) : Calls Try.prog 91 [.pointer (some ⟨g, 0, none⟩)].toArray w (RetP L g s M o 1 256 .i64 w) :=
  p_of hp (tk_lt hp.isB 1 _ (by omega) (by decide)) (u8_rd g s M bad w h hp.isB (by have := hp.len; omega))
theorem u16_p (L M : List Int) (g o : Nat) (s : SlV) (bad : Bool) (w : World) (h9 : L.length ≤ 100000) (hp : Pos L o M bad) (h : In w g s M bad) : Calls Try.prog 92 [.pointer (some ⟨g, 0, none⟩)].toArray w (RetP L g s M o 2 65536 .i64 w) :=
  p_of hp (tk_lt hp.isB 2 _ (by omega) (by decide)) (u16_rd g s M bad w h hp.isB (by have := hp.len; omega))
theorem u64_p (L M : List Int) (g o : Nat) (s : SlV) (bad : Bool) (w : World) (h9 : L.length ≤ 100000) (hp : Pos L o M bad) (h : In w g s M bad) : Calls Try.prog 77 [.pointer (some ⟨g, 0, none⟩)].toArray w (RetP L g s M o 8 18446744073709551616 .u64 w) :=
  p_of hp (tk_lt hp.isB 8 _ (by omega) (by decide)) (u64_rd g s M bad w h hp.isB (by have := hp.len; omega))
/-- Bytes that were read, and what is left. -/
structure BS2 where
  d : SlV
  D : List Int
  q : SlV
  M : List Int
  bad : Bool
structure PB (L : List Int) (s : SlV) (M : List Int) (o k : Nat) (r : BS2) : Prop where
  nx : Nx s M r.M r.q
  pos : Pos L (o + k) r.M r.bad
  ok : r.d.Ok r.D.length
  len : r.D.length ≤ k
  isB : IsB r.D
  val : o + k ≤ L.length → r.D = (L.drop o).take k
theorem bytes_p (L M : List Int) (g o k : Nat) (s : SlV) (bad : Bool) (w : World) (x : Int) (hx : x = k) (h9 : L.length ≤ 100000) (hk9 : k ≤ 100000) (hp : Pos L o M bad) (h : In w g s M bad) : Calls Try.prog 79 [.pointer (some ⟨g, 0, none⟩), .int .i64 x].toArray w
    (RetW g 157 [sl s.A 1 (IE .u8) M] (PB L s M o k) (fun r => r.d.v) (fun r => [r.q.v, .bool r.bad]) (fun r => [sl r.d.A 1 (IE .u8) r.D]) (fun r => [sl r.q.A 1 (IE .u8) r.M]) w) := by
  subst hx
  exact (bytes_rd g k s M bad w h (by have := hp.len; omega) hk9).mono fun e w' ⟨q, h1, h2, h3, h4⟩ => ⟨⟨q.1, tk M k, q.2, rs M k, rb M bad k⟩, ⟨h1.2, pos_next hp, h1.1, tk_len M k, tk_isB hp.isB k, fun hl => pos_tk hp hl⟩, h2, h3, h4⟩
theorem end_p (L M : List Int) (g o : Nat) (s : SlV) (bad : Bool) (w : World) (h9 : L.length ≤ 100000) (hp : Pos L o M bad) (h : In w g s M bad) : Calls Try.prog 93 [.pointer (some ⟨g, 0, none⟩)].toArray w fun e w' => e = .returned (.int .i64 (if L.length < o then 20 else if o < L.length then 21 else 0)) ∧ Below w.heap.size w w' := by
  refine (end_rd g s M bad w h (by have := hp.len; omega)).mono ?_
  rintro e w' ⟨h1, h2⟩
  refine ⟨?_, h2⟩
  rw [h1]
  congr 2
  by_cases ho : L.length < o
  · rw [if_pos (hp.no ho), if_pos ho]
  · obtain ⟨e1, e2⟩ := hp.ok (by omega)
    subst e1
    subst e2
    rw [if_neg (by decide), if_neg ho, List.length_drop]
    congr 1
    exact propext ⟨fun h => by omega, fun h => by omega⟩

end Go.Proofs.Yteajefmnbalofaa.Rd
namespace Go.Proofs.Yteajefmnbalofaa.Rd
open Go.RowKit Mem Gx Bytes Fix Reader
set_option linter.unusedVariables false
set_option linter.unusedSimpArgs false
set_option maxRecDepth 100000
set_option maxHeartbeats 4000000
theorem left_rd (g : Nat) (s : SlV) (L : List Int) (bad : Bool) (w : World) (h : In w g s L bad) :
    Calls Try.prog 80 [.pointer (some ⟨g, 0, none⟩)].toArray w fun e w' => e = .returned (.int .i64 (L.length : Nat)) ∧ Below w.heap.size w w' := by
  have hn := h.ok.n
  refine g_enter0 T [] [] [row g 0 [s.v, .bool bad]] Try.func80 rfl Try.ntmps80 rfl (Kn.argRow (Kn.start w) h.b) ?_
  (repeat (first | refine g_nil ?_ | refine g_pure true hT rfl rfl rfl sI ?_ | refine g_skip rfl rfl ?_ | refine g_skip0 rfl rfl ?_ | refine gk_region rfl ?_ | refine gk_cond_t rfl rfl ?_ | refine gk_cond_f rfl rfl ?_ | refine g_yd rfl rfl (yd_load_blk hT rfl rfl mE rfl rfl) ?_ | refine g_yd rfl rfl (yd_load_row hT rfl rfl mE rfl rfl) ?_ | refine g_yd rfl rfl (yd_load_row0 hT rfl rfl mE rfl rfl) ?_ | refine g_yd rfl rfl (yd_eql rfl rfl rfl rfl rfl (by kernel_rfl)) ?_ | refine g_yd rfl rfl (yd_neq rfl rfl rfl rfl rfl (by kernel_rfl)) ?_ | refine g_yd rfl rfl (yd_index hT rfl rfl rfl sI rfl) ?_ | refine g_yd rfl rfl (yd_slice_nil hT rfl rfl rfl rfl) ?_ | refine g_yd rfl rfl (yd_build_arr hT rfl rfl rfl rfl rfl rfl) ?_ | (refine g_mv rfl ?_; first | (refine mv_box rfl rfl rfl rfl ?_; intro _) | (refine mv_alloc rfl hT rfl rfl ?_; intro _) | refine mv_store hT rfl rfl rfl rfl rfl rfl sO rfl ?_ | (refine mv_buildSlice rfl hT rfl rfl rfl rfl rfl rfl rfl rfl ?_; intro _)) | refine g_yd rfl rfl (Ys.yd (ys_str_eql hT rfl rfl rfl rfl)) ?_ | refine g_yd rfl rfl (Ys.yd (ys_str_neq hT rfl rfl rfl rfl)) ?_))
  refine gk_ret hT rfl rfl (.tmp rfl .nil) (fun w' hk => ?_)
  exact ⟨by rw [← hn]; rfl, hk.toBelow⟩
end Go.Proofs.Yteajefmnbalofaa.Rd
