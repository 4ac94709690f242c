/- Calls of chains and stores: page.Put, page.Of, bytes.Equal, rows of uint32, a place's blocks. -/
import Derived.Test.YtokhfkbbhdaghaaGreatPage8
import Derived.Test.YtokhfkbbhdaghaaGreatGxX
import Derived.Test.YtokhfkbbhdaghaaGreatDk8
namespace Go.Proofs.YtokhfkbbhdaghaaGreat.Ch
open Go.RowKit Mem Gx Bytes Dk
set_option linter.unusedVariables false
set_option linter.unusedSimpArgs false
set_option maxRecDepth 100000
set_option maxHeartbeats 2000000
theorem ret_of_own {α : Type} [Inhabited α] {F : Value → Value} {sz : Nat} {enc : α → Nat → Value} {L : List α} {P : Program} {fid : FuncId} {args : Array Value} {w : World} {e' : TypeId} (hsz : 0 < sz) (h : Calls P fid args w fun e w' => ∃ v, e = .returned (F v) ∧ OwnL w' w.heap.size e' sz v enc L ∧ Below w.heap.size w w') :
    Calls P fid args w (Ret (fun s : SlV => s.Ok L.length) (fun s => F s.v) (fun s => [sl s.A sz enc L]) w) :=
  h.mono fun e w' ⟨v, h1, h2, h3⟩ => by
    obtain ⟨A, c, rfl, k1, k2, k3, k4, k5⟩ := OwnL.sl h2
    refine ⟨⟨A, _, c⟩, ⟨rfl, k2, k3, k4⟩, h1, ⟨h3, fun φ hφ => ?_, List.pairwise_singleton _ _⟩⟩
    obtain rfl := List.mem_singleton.1 hφ
    refine ⟨k1, fun b hb => ?_⟩
    obtain ⟨_, a, ha, hab⟩ := hb
    rw [← hab]
    exact k5 a ha
theorem ret_of_of {P : Program} {fid : FuncId} {args : Array Value} {w : World} {r : List Int × Int} (h : Calls P fid args w fun e w' => Page.OfRes w w' e r) :
    Calls P fid args w (Ret (fun s : SlV => s.Ok r.1.length) (fun s => .tuple #[s.v, .int .i64 r.2]) (fun s => [sl s.A 1 (IE .u8) r.1]) w) :=
  h.mono fun e w' ⟨A, n, c, h1, h2, h3, h4, h5, h6, h7⟩ => by
    refine ⟨⟨A, n, c⟩, ⟨h1, h4, h7.2, h5⟩, h2, ⟨h6, fun φ hφ => ?_, List.pairwise_singleton _ _⟩⟩
    obtain rfl := List.mem_singleton.1 hφ
    refine ⟨h3, fun b hb => ?_⟩
    obtain ⟨hn, a, ha, hab⟩ := hb
    rw [← hab]
    refine ⟨h7.1 a ha, ?_⟩
    obtain ⟨b', off, e1, hc⟩ := h3 hn
    have e1 : A = some ⟨b', off, none⟩ := e1
    have ha : A = some a := ha
    rw [e1] at ha
    injection ha with ha
    rw [← ha]
    exact lt_of_cell (hc 0 hn 0 (by decide))
abbrev RetB (F : Value → Value) (L : List Int) (w : World) : Ending → World → Prop := Ret (fun s : SlV => s.Ok L.length) (fun s => F s.v) (fun s => [sl s.A 1 (IE .u8) L]) w
theorem pput_any (k : Int) (s : SlV) (L : List Int) (w : World) (h1 : 1 ≤ k) (h2 : k ≤ 6) (hs : s.Ok L.length) (hL : L.length ≤ 120) (h : Sl w s.A 1 (IE .u8) L) (hB : IsB L) :
    Calls Tryz.prog 83 [.int .i64 k, s.v].toArray w (RetB (fun v => .tuple #[v, .int .i64 0]) (Page.page k L) w) :=
  ret_of_own (by decide) (Page.put_ok k s.A s.n s.c L w h1 h2 hs.n (by rw [hs.n]; exact hL) h hB)
theorem own_sl {E : List Nat} {w0 w : World} {O R : List Fact} {α : Type} [Inhabited α] {base e sz n c : Nat} {A : Option Addr} {enc : α → Nat → Value} {L : List α} (hk : Kn E w0 w O R) (h : own base e sz (.slice A n c) enc L ∈ O) : Sl w A sz enc L := by
  obtain ⟨A', c', hv, hs, _⟩ := hk.ownSl h
  injection hv with h1 h2 h3
  subst h1
  exact hs
theorem bequal_any (A A' : Option Addr) (n c n' c' : Nat) (L L' : List Int) (w : World) (hn : n = L.length) (hn' : n' = L'.length) (hs : Sl w A 1 (IE .u8) L) (hs' : Sl w A' 1 (IE .u8) L') (hB : IsB L) (hB' : IsB L') :
    Calls Tryz.prog 8 [.slice A n c, .slice A' n' c'].toArray w fun e w' => e = .returned (.bool (tB (L = L'))) ∧ Below w.heap.size w w' := by
  refine g_enter0 T [] [] [sl A' 1 (IE .u8) L', sl A 1 (IE .u8) L] Tryz.func8 rfl Tryz.ntmps8 rfl (((Kn.start w).argR hs (by decide) (fun _ h => by cases h)).argR hs' (by decide) (fun _ h => by cases h)) ?_
  (repeat (refine gG ?_; try intro _))
  refine g_yd rfl rfl (yd_conv_bytes hT (.inr (show sl A 1 (IE .u8) L ∈ _ from mE)) hn rfl rfl rfl rfl rfl) ?_
  (repeat (refine gG ?_; try intro _))
  refine g_yd rfl rfl (yd_conv_bytes hT (.inr (show sl A' 1 (IE .u8) L' ∈ _ from mE)) hn' rfl rfl rfl rfl rfl) ?_
  (repeat (refine gG ?_; try intro _))
  refine gk_ret hT rfl rfl (.tmp rfl .nil) (fun w' hk => ?_)
  refine ⟨?_, hk.toBelow⟩
  rw [tB_congr (p := strOfNums L = strOfNums L') (q := L = L') ⟨strOf_inj hB hB', fun h => by rw [h]⟩]
  rfl
theorem elt_U : Elt Tryz.prog 45 22 1 4 := Elt.mk' (z := .int .u32 0) Tryz.underlying45 (by kernel_rfl) rfl (by decide)
theorem equal_U (A A' : Option Addr) (n c n' c' : Nat) (L L' : List Int) (w : World) (hn : n = L.length) (hn' : n' = L'.length) (h9 : n ≤ 9223372036854775807) (hs : Sl w A 1 (IE .u32) L) (hs' : Sl w A' 1 (IE .u32) L') :
    Calls Tryz.prog 18 [.slice A n c, .slice A' n' c'].toArray w fun e w' => e = .returned (.bool (tB (L = L'))) ∧ Below w.heap.size w w' := by
  by_cases hne : n = n'
  · subst hne
    refine g_enter0 T [] [] [sl A' 1 (IE .u32) L', sl A 1 (IE .u32) L] Tryz.func18 rfl Tryz.ntmps18 rfl (((Kn.start w).argR hs (by decide) (fun _ h => by cases h)).argR hs' (by decide) (fun _ h => by cases h)) ?_
    (repeat' (first | (refine gG ?_; try intro _) | ((first | refine g_split rfl rfl tE (fun _ => ?_) (fun _ => ?_) | refine gk_cond rfl rfl tE (fun _ => ?_) (fun _ => ?_)) <;> (try first | (exfalso; omega; done) | (rename_i hx; exact absurd rfl hx) | (rename_i hx; cases hx; done)))))
    refine gk_loop (fun k : Nat => k ≤ n ∧ ∀ i, i < k → L[i]? = L'[i]?) (fun k => [(0, .slice A n c), (1, .slice A' n c'), (12, .int .i64 n), (13, .int .i64 k)]) (fun _ => []) (fun _ => [sl A' 1 (IE .u32) L', sl A 1 (IE .u32) L]) (fun k => n - k) 0 rfl ⟨Nat.zero_le _, fun i hi => absurd hi (Nat.not_lt_zero _)⟩ ⟨rfl, rfl, rfl, rfl, trivial⟩ sL sS ?_
    rintro k ⟨hk, hp⟩
    (repeat (refine gG ?_; try intro _))
    refine gk_cond rfl rfl (tells_tB _) (fun h1 => ?_) (fun h1 => ?_)
    · have hkn : k < n := by omega
      refine gk_elem (enc := (IE .u32)) (L := L) k mE (by omega) (by decide) (fun b off y eA hy => ?_)
      refine gk_elem (enc := (IE .u32)) (L := L') k mE (by omega) (by decide) (fun b' off' y' eA' hy' => ?_)
      subst eA
      subst eA'
      (repeat (refine gG ?_; try intro _))
      refine gk_drawn_at [0, 1] rfl rfl (by kernel_rfl) ?_
      (repeat (first | refine ga_nil (by decide +kernel) ?_ | refine ga_take (by decide +kernel) rfl rfl (ys_ev (nw := true) hT rfl sI) sF ?_ | refine ga_skip (by decide +kernel) rfl rfl sF ?_ | refine ga_take (by decide +kernel) rfl rfl (ys_blk hT rfl rfl mE rfl rfl) sF ?_ | refine ga_take (by decide +kernel) rfl rfl (ys_row hT rfl rfl mE rfl rfl) sF ?_ | refine ga_take (by decide +kernel) rfl rfl (ys_row0 hT rfl rfl mE rfl rfl) sF ?_ | (refine ga_mv (by decide +kernel) rfl ?_; (first | (refine mv_box rfl rfl rfl rfl ?_; intro _) | (refine mv_alloc rfl hT rfl rfl ?_; intro _) | refine mv_store hT rfl rfl rfl rfl rfl rfl sO rfl ?_ | (refine mv_buildSlice rfl hT rfl rfl rfl rfl rfl rfl rfl rfl ?_; intro _)); refine ⟨sF, ?_⟩) | refine ga_take (by decide +kernel) rfl rfl (ys_eql rfl rfl rfl rfl rfl (by kernel_rfl)) sF ?_ | refine ga_take (by decide +kernel) rfl rfl (ys_neq rfl rfl rfl rfl rfl (by kernel_rfl)) sF ?_))
      (repeat (refine gG ?_; try intro _))
      refine gk_cond rfl rfl (tells_tB _) (fun h2 => ?_) (fun h2 => ?_)
      · (repeat (refine gG ?_; try intro _))
        refine gk_ret hT rfl rfl (.tmp rfl .nil) (fun w' hk => ?_)
        refine ⟨?_, hk.toBelow⟩
        rw [tB_false (list_ne hy hy' (fun e => h2 (by subst e; exact rfl)))]
        rfl
      · (repeat (refine gG ?_; try intro _))
        refine gk_again rfl (k + 1) ⟨by omega, fun i hi => ?_⟩ (by omega) ⟨rfl, rfl, rfl, rfl, trivial⟩ sL sS
        by_cases e : i = k
        · subst e
          rw [hy, hy', show y = y' from id (Classical.byContradiction h2)]
        · exact hp i (by omega)
    · (repeat (refine gG ?_; try intro _))
      refine gk_ret hT rfl rfl (.tmp rfl .nil) (fun w' hk => ?_)
      refine ⟨?_, hk.toBelow⟩
      rw [tB_true (list_eq (by omega) (fun i hi => hp i (by omega)))]
      rfl
  · refine g_enter0 T [] [] [] Tryz.func18 rfl Tryz.ntmps18 rfl (Kn.start _) ?_
    (repeat' (first | (refine gG ?_; try intro _) | ((first | refine g_split rfl rfl tE (fun _ => ?_) (fun _ => ?_) | refine gk_cond rfl rfl tE (fun _ => ?_) (fun _ => ?_)) <;> (try first | (exfalso; omega; done) | (rename_i hx; exact absurd rfl hx) | (rename_i hx; cases hx; done)))))
    refine gk_ret hT rfl rfl (.tmp rfl .nil) (fun w' hk => ?_)
    refine ⟨?_, hk.toBelow⟩
    rw [tB_false (fun e => hne (by rw [hn, hn', e]))]
    rfl
theorem oneU : ∀ (x : Int) (j : Nat), (IE .u32 x j).oneCell' = true := fun x j => rfl
/-- Where it is first. -/
def posU : List Int → Int → Int
  | [], _ => -1
  | y :: r, x => if y = x then 0 else if posU r x = -1 then -1 else posU r x + 1
theorem posU_at : ∀ {L : List Int} {k : Nat} {x : Int}, L[k]? = some x → (∀ i, i < k → L[i]? ≠ some x) → posU L x = (k : Int)
  | [], k, x, h, _ => by simp at h
  | y :: r, 0, x, h, _ => by
    rw [List.getElem?_cons_zero] at h
    unfold posU
    rw [if_pos (Option.some.inj h)]
    rfl
  | y :: r, k + 1, x, h, hn => by
    have h0 := hn 0 (Nat.succ_pos _)
    rw [List.getElem?_cons_zero] at h0
    rw [List.getElem?_cons_succ] at h
    have ih := posU_at h (fun i hi => by have := hn (i + 1) (Nat.succ_lt_succ hi); rwa [List.getElem?_cons_succ] at this)
    unfold posU
    rw [if_neg (fun e => h0 (congrArg some e)), ih, if_neg (by omega)]
    omega
theorem posU_no : ∀ {L : List Int} {x : Int}, (∀ i, i < L.length → L[i]? ≠ some x) → posU L x = -1
  | [], x, _ => rfl
  | y :: r, x, hn => by
    have h0 := hn 0 (Nat.succ_pos _)
    rw [List.getElem?_cons_zero] at h0
    have ih := posU_no (L := r) (x := x) (fun i hi => by have := hn (i + 1) (Nat.succ_lt_succ hi); rwa [List.getElem?_cons_succ] at this)
    unfold posU
    rw [if_neg (fun e => h0 (congrArg some e)), if_pos ih]
theorem posU_ge : ∀ (L : List Int) (x : Int), -1 ≤ posU L x
  | [], x => Int.le_refl _
  | y :: r, x => by
    have := posU_ge r x
    unfold posU
    split
    · omega
    · split <;> omega
theorem posU_mem : ∀ {L : List Int} {x : Int}, 0 ≤ posU L x ↔ x ∈ L
  | [], x => ⟨fun h => absurd h (by unfold posU; decide), fun h => by cases h⟩
  | y :: r, x => by
    have ih := posU_mem (L := r) (x := x)
    have hg := posU_ge r x
    rw [List.mem_cons, ← ih, show posU (y :: r) x = if y = x then 0 else if posU r x = -1 then -1 else posU r x + 1 from rfl]
    by_cases e : y = x
    · rw [if_pos e]; exact ⟨fun _ => .inl e.symm, fun _ => Int.le_refl _⟩
    · rw [if_neg e]
      by_cases e2 : posU r x = -1
      · rw [if_pos e2, e2]; exact ⟨fun h => absurd h (by decide), fun h => by rcases h with h | h; exact absurd h.symm e; exact absurd h (by decide)⟩
      · rw [if_neg e2]; exact ⟨fun _ => .inr (by omega), fun _ => by omega⟩
theorem rblock_any (a lg : Nat) (ha : 1 ≤ a) (ha9 : a ≤ 4294967295) (hl : lg ≤ 100000) (w : World) : Calls Tryz.prog 13 [.int .u32 (a : Nat), .int .i64 (lg : Nat)].toArray w fun e w' => e = .returned (.int .i64 ((a + lg + 1 : Nat) : Int)) ∧ Below w.heap.size w w' := by
  refine g_enter0 T [] [] [] Tryz.func13 rfl Tryz.ntmps13 rfl (Kn.start _) ?_
  (repeat' (first | (refine gG ?_; try intro _) | ((first | refine g_split rfl rfl tE (fun _ => ?_) (fun _ => ?_) | refine gk_cond rfl rfl tE (fun _ => ?_) (fun _ => ?_)) <;> (try first | (exfalso; omega; done) | (rename_i hx; exact absurd rfl hx) | (rename_i hx; cases hx; done)))))
  refine gk_ret hT rfl rfl (.tmp rfl .nil) (fun w' hk => ?_)
  exact ⟨congrArg (fun q => Ending.returned (.int .i64 q)) (by omega), hk.toBelow⟩
theorem pread_any (g lg : Nat) (sv lv : Value) (S : List SecD) (W : List WrD) (a : Nat) (w : World) (ho : DkOk S W) (hl : W.length ≤ 100000) (ha : 1 ≤ a) (ha9 : a ≤ 4294967295) (hlg : lg ≤ 100000) (hS : a + lg + 1 < S.length) (h : Rd1 w (dkF g ⟨sv, lv, S, W⟩)) :
    Calls Tryz.prog 6 [.agg #[.pointer (some ⟨g, 0, none⟩), .int .i64 (lg : Nat)], .int .u32 (a : Nat)].toArray w (Ret (fun s : SlV => s.Ok (dread (S.map SecD.L) (W.map WrD.c) (a + lg + 1)).length) (fun s => .tuple #[.slice s.A s.n s.c, .int .i64 0]) (fun s => [sl s.A 1 (IE .u8) (dread (S.map SecD.L) (W.map WrD.c) (a + lg + 1))]) w) := by
  refine g_enter0 T [] [] [dkF g ⟨sv, lv, S, W⟩] Tryz.func6 rfl Tryz.ntmps6 rfl (Rds.cons h .nil).kn ?_
  (repeat' (first | (refine gG ?_; try intro _) | ((first | refine g_split rfl rfl tE (fun _ => ?_) (fun _ => ?_) | refine gk_cond rfl rfl tE (fun _ => ?_) (fun _ => ?_)) <;> (try first | (exfalso; omega; done) | (rename_i hx; exact absurd rfl hx) | (rename_i hx; cases hx; done)))))
  rename_i g2 _
  refine gk_any [0, 1] (Cut _ (fun u : {s : SlV // s.Ok (dread (S.map SecD.L) (W.map WrD.c) (a + lg + 1)).length} => [(4, .slice u.1.A u.1.n u.1.c), (5, .int .i64 0)]) (fun u => [sl u.1.A 1 (IE .u8) (dread (S.map SecD.L) (W.map WrD.c) (a + lg + 1))]) (fun _ => [])) rfl rfl (by kernel_rfl) ?_ (cut_k fun u => ?_)
  · skip
    refine gb_take 0 rfl (by decide +kernel) rfl rfl (ys_ev (nw := true) hT rfl sI) sF ?_
    refine gb_take 1 rfl (by decide +kernel) rfl rfl (by first | exact ys_blk hT rfl rfl mE rfl rfl | exact ys_row hT rfl rfl mE rfl rfl | exact ys_row0 hT rfl rfl mE rfl rfl) sF ?_
    refine gb_take 2 rfl (by decide +kernel) rfl rfl (ys_ev (nw := true) hT rfl sI) sF ?_
    refine gb_take 3 rfl (by decide +kernel) rfl rfl (ys_ev (nw := true) hT rfl sI) sF ?_
    refine gb_take 4 rfl (by decide +kernel) rfl rfl (by first | exact ys_blk hT rfl rfl mE rfl rfl | exact ys_row hT rfl rfl mE rfl rfl | exact ys_row0 hT rfl rfl mE rfl rfl) sF ?_
    refine gb_only 5 (by decide +kernel) rfl rfl ?_
    refine mv_call_bel (fun w hk => rblock_any a lg ha ha9 hlg w) rfl rfl rfl rfl rfl (by kernel_rfl) ?_
    refine ⟨sF, ?_⟩
    refine gb_only 6 (by decide +kernel) rfl rfl ?_
    refine mv_call_ret (fun w hk => dread_any g sv lv S W (a + lg + 1) w ho hl hS (hk.rR (φ := dkF g ⟨sv, lv, S, W⟩) mE)) rfl rfl rfl rfl rfl (by kernel_rfl) (fun u hu => ?_)
    refine ⟨sF, ?_⟩
    refine gb_take 7 rfl (by decide +kernel) rfl rfl (ys_ev (nw := true) hT rfl sI) sF ?_
    refine gb_take 8 rfl (by decide +kernel) rfl rfl (ys_ev (nw := true) hT rfl sI) sF ?_
    refine gb_take 9 rfl (by decide +kernel) rfl rfl (ys_ev (nw := true) hT rfl sI) sF ?_
    refine gb_take 10 rfl (by decide +kernel) rfl rfl (ys_ev (nw := true) hT rfl sI) sF ?_
    refine gb_nil (by decide +kernel) ?_
    exact ⟨⟨u, hu⟩, (by repeat (first | exact trivial | refine ⟨rfl, ?_⟩)), sA, sS⟩
  · obtain ⟨u, hu⟩ := u
    (repeat (refine gG ?_; try intro _))
    refine gk_ret hT rfl rfl (.tmp rfl (.tmp rfl .nil)) (fun w' hk => ?_)
    exact Ret.mk u hu rfl hk sA
theorem pwrite_any (g lg : Nat) (sv lv : Value) (S : List SecD) (W : List WrD) (a : Nat) (bA : Option Addr) (bn bc : Nat) (B : List Int) (w : World) (ho : DkOk S W) (hl : W.length ≤ 100000) (ha : 1 ≤ a) (ha9 : a ≤ 4294967295) (hlg : lg ≤ 100000) (hS : a + lg + 1 < S.length) (hbn : bn = B.length) (hB : SecOk B) (h : Rd1 w (dkF g ⟨sv, lv, S, W⟩)) (hb : Rd1 w (sl bA 1 (IE .u8) B)) (hbd : ∀ b, (dkF g ⟨sv, lv, S, W⟩).S b → ¬ (sl bA 1 (IE .u8) B).S b) :
    Calls Tryz.prog 5 [.agg #[.pointer (some ⟨g, 0, none⟩), .int .i64 (lg : Nat)], .int .u32 (a : Nat), .slice bA bn bc].toArray w (RetM (dkF g ⟨sv, lv, S, W⟩) (fun q : Value × SecD => q.2.Ok ∧ q.2.L = B) (fun _ => .int .i64 0) (fun q => dkF g ⟨sv, q.1, S, W ++ [(⟨a + lg + 1, q.2⟩ : WrD)]⟩) w) := by
  refine g_enter0 T (finE (dkF g ⟨sv, lv, S, W⟩) w) [dkF g ⟨sv, lv, S, W⟩] [sl bA 1 (IE .u8) B] Tryz.func5 rfl Tryz.ntmps5 rfl (Kn.startM h (fun b hb => (finE_mem h.2 b).2 hb) (fun ψ hψ => by obtain rfl := List.mem_singleton.1 hψ; exact ⟨hb, hbd⟩)) ?_
  (repeat' (first | (refine gG ?_; try intro _) | ((first | refine g_split rfl rfl tE (fun _ => ?_) (fun _ => ?_) | refine gk_cond rfl rfl tE (fun _ => ?_) (fun _ => ?_)) <;> (try first | (exfalso; omega; done) | (rename_i hx; exact absurd rfl hx) | (rename_i hx; cases hx; done)))))
  rename_i g2 _
  refine gk_any [0, 2] (Cut _ (fun q : {q : Value × SecD // q.2.Ok ∧ q.2.L = B} => [(6, .int .i64 0)]) (fun q => [dkF g ⟨sv, q.1.1, S, W ++ [(⟨a + lg + 1, q.1.2⟩ : WrD)]⟩]) (fun _ => [])) rfl rfl (by kernel_rfl) ?_ (cut_k fun q => ?_)
  · skip
    refine gb_take 0 rfl (by decide +kernel) rfl rfl (ys_ev (nw := true) hT rfl sI) sF ?_
    refine gb_take 1 rfl (by decide +kernel) rfl rfl (by first | exact ys_blk hT rfl rfl mE rfl rfl | exact ys_row hT rfl rfl mE rfl rfl | exact ys_row0 hT rfl rfl mE rfl rfl) sF ?_
    refine gb_take 2 rfl (by decide +kernel) rfl rfl (ys_ev (nw := true) hT rfl sI) sF ?_
    refine gb_take 3 rfl (by decide +kernel) rfl rfl (ys_ev (nw := true) hT rfl sI) sF ?_
    refine gb_take 4 rfl (by decide +kernel) rfl rfl (by first | exact ys_blk hT rfl rfl mE rfl rfl | exact ys_row hT rfl rfl mE rfl rfl | exact ys_row0 hT rfl rfl mE rfl rfl) sF ?_
    refine gb_take 6 rfl (by decide +kernel) rfl rfl (ys_ev (nw := true) hT rfl sI) sF ?_
    refine gb_only 5 (by decide +kernel) rfl rfl ?_
    refine mv_call_bel (fun w hk => rblock_any a lg ha ha9 hlg w) rfl rfl rfl rfl rfl (by kernel_rfl) ?_
    refine ⟨sF, ?_⟩
    refine gb_only 7 (by decide +kernel) rfl rfl ?_
    refine mv_call_mod (φ := dkF g ⟨sv, lv, S, W⟩) (ψ := fun q : Value × SecD => dkF g ⟨sv, q.1, S, W ++ [(⟨a + lg + 1, q.2⟩ : WrD)]⟩) (fun w1 hk => by exact dwrite_any g sv lv S W (a + lg + 1) bA bn bc B w1 ho hl hS hbn hB (hk.rO (φ := dkF g ⟨sv, lv, S, W⟩) mE) (hk.rR (φ := sl bA 1 (IE .u8) B) mE) (fun b hb => hk.disR (dkF g ⟨sv, lv, S, W⟩) mE (sl bA 1 (IE .u8) B) mE b hb)) rfl rfl rfl rfl rfl (by kernel_rfl) (by intro _; first | ((repeat (first | with_reducible exact Upd.here _ | with_reducible apply Upd.there)); done) | ((repeat (first | exact Upd.here _ | apply Upd.there)); done) | fail) (fun q hq => ?_)
    refine ⟨sF, ?_⟩
    refine gb_take 8 rfl (by decide +kernel) rfl rfl (ys_ev (nw := true) hT rfl sI) sF ?_
    refine gb_nil (by decide +kernel) ?_
    exact ⟨⟨q, hq⟩, (by repeat (first | exact trivial | refine ⟨rfl, ?_⟩)), sA, sS⟩
  · obtain ⟨q, hq⟩ := q
    (repeat (refine gG ?_; try intro _))
    refine gk_ret hT rfl rfl (.tmp rfl .nil) (fun w' hk => ?_)
    exact RetM.mk (ψ := fun q : Value × SecD => dkF g ⟨sv, q.1, S, W ++ [(⟨a + lg + 1, q.2⟩ : WrD)]⟩) q hq rfl hk (fun b hb => (finE_mem h.2 b).1 hb) mE
end Go.Proofs.YtokhfkbbhdaghaaGreat.Ch
