/- Calls of chains and stores: page.Put, page.Of, bytes.Equal, rows of uint32, a place's blocks. maps.Keys, and what is made of it (uint32). refs.Table: Count, Hold, Drop, Len, Sum. -/
import Derived.Test.YtaghmffgoomebaaGreatPage3
import Derived.Laws.BytesArg
import Derived.Test.YtaghmffgoomebaaGreatDk4
import Derived.Test.YtaghmffgoomebaaGreatGxP
import Derived.Orders
import Derived.Test.YtaghmffgoomebaaGreatDk6
namespace Go.Proofs.YtaghmffgoomebaaGreat.Ch
open Go.RowKit Mem Gx Bytes Dk
set_option linter.unusedVariables false
set_option linter.unusedSimpArgs false
set_option maxRecDepth 100000
set_option maxHeartbeats 2000000
theorem ret_of_own {α : Type} [Inhabited α] {F : Value → Value} {sz : Nat} {enc : α → Nat → Value} {L : List α} {P : Program} {fid : FuncId} {args : Array Value} {w : World} {e' : TypeId} (hsz : 0 < sz) (h : Calls P fid args w fun e w' => ∃ v, e = .returned (F v) ∧ OwnL w' w.heap.size e' sz v enc L ∧ Below w.heap.size w w') :
    Calls P fid args w (Ret (fun s : SlV => s.Ok L.length) (fun s => F s.v) (fun s => [sl s.A sz enc L]) w) :=
  h.mono fun e w' ⟨v, h1, h2, h3⟩ => by
    obtain ⟨A, c, rfl, k1, k2, k3, k4, k5⟩ := OwnL.sl h2
    refine ⟨⟨A, _, c⟩, ⟨rfl, k2, k3, k4⟩, h1, ⟨h3, fun φ hφ => ?_, List.pairwise_singleton _ _⟩⟩
    obtain rfl := List.mem_singleton.1 hφ
    refine ⟨k1, fun b hb => ?_⟩
    obtain ⟨_, a, ha, hab⟩ := hb
    rw [← hab]
    exact k5 a ha
abbrev RetB (F : Value → Value) (L : List Int) (w : World) : Ending → World → Prop := Ret (fun s : SlV => s.Ok L.length) (fun s => F s.v) (fun s => [sl s.A 1 (IE .u8) L]) w
theorem pput_any (k : Int) (s : SlV) (L : List Int) (w : World) (h1 : 1 ≤ k) (h2 : k ≤ 6) (hs : s.Ok L.length) (hL : L.length ≤ 120) (h : Sl w s.A 1 (IE .u8) L) (hB : IsB L) :
    Calls Tryz.prog 102 [.int .i64 k, s.v].toArray w (RetB (fun v => .tuple #[v, .int .i64 0]) (Page.page k L) w) :=
  ret_of_own (by decide) (Page.put_ok k s.A s.n s.c L w h1 h2 hs.n (by rw [hs.n]; exact hL) h hB)
theorem own_sl {E : List Nat} {w0 w : World} {O R : List Fact} {α : Type} [Inhabited α] {base e sz n c : Nat} {A : Option Addr} {enc : α → Nat → Value} {L : List α} (hk : Kn E w0 w O R) (h : own base e sz (.slice A n c) enc L ∈ O) : Sl w A sz enc L := by
  obtain ⟨A', c', hv, hs, _⟩ := hk.ownSl h
  injection hv with h1 h2 h3
  subst h1
  exact hs
theorem elt_U : Elt Tryz.prog 43 26 1 4 := Elt.mk' (z := .int .u32 0) Tryz.underlying43 (by kernel_rfl) rfl (by decide)
theorem equal_U (A A' : Option Addr) (n c n' c' : Nat) (L L' : List Int) (w : World) (hn : n = L.length) (hn' : n' = L'.length) (h9 : n ≤ 9223372036854775807) (hs : Sl w A 1 (IE .u32) L) (hs' : Sl w A' 1 (IE .u32) L') :
    Calls Tryz.prog 12 [.slice A n c, .slice A' n' c'].toArray w fun e w' => e = .returned (.bool (tB (L = L'))) ∧ Below w.heap.size w w' := by
  by_cases hne : n = n'
  · subst hne
    refine g_enter0 T [] [] [sl A' 1 (IE .u32) L', sl A 1 (IE .u32) L] Tryz.func12 rfl Tryz.ntmps12 rfl (((Kn.start w).argR hs (by decide) (fun _ h => by cases h)).argR hs' (by decide) (fun _ h => by cases h)) ?_
    (repeat' (first | (refine gG ?_; try intro _) | ((first | refine g_split rfl rfl tE (fun _ => ?_) (fun _ => ?_) | refine gk_cond rfl rfl tE (fun _ => ?_) (fun _ => ?_)) <;> (try first | (exfalso; omega; done) | (rename_i hx; exact absurd rfl hx) | (rename_i hx; cases hx; done)))))
    refine gk_loop (fun k : Nat => k ≤ n ∧ ∀ i, i < k → L[i]? = L'[i]?) (fun k => [(0, .slice A n c), (1, .slice A' n c'), (12, .int .i64 n), (13, .int .i64 k)]) (fun _ => []) (fun _ => [sl A' 1 (IE .u32) L', sl A 1 (IE .u32) L]) (fun k => n - k) 0 rfl ⟨Nat.zero_le _, fun i hi => absurd hi (Nat.not_lt_zero _)⟩ ⟨rfl, rfl, rfl, rfl, trivial⟩ sL sS ?_
    rintro k ⟨hk, hp⟩
    (repeat (refine gG ?_; try intro _))
    refine gk_cond rfl rfl (tells_tB _) (fun h1 => ?_) (fun h1 => ?_)
    · have hkn : k < n := by omega
      refine gk_elem (enc := (IE .u32)) (L := L) k mE (by omega) (by decide) (fun b off y eA hy => ?_)
      refine gk_elem (enc := (IE .u32)) (L := L') k mE (by omega) (by decide) (fun b' off' y' eA' hy' => ?_)
      subst eA
      subst eA'
      (repeat (refine gG ?_; try intro _))
      refine gk_drawn_at [0, 1] rfl rfl (by kernel_rfl) ?_
      (repeat (first | refine ga_nil (by decide +kernel) ?_ | refine ga_take (by decide +kernel) rfl rfl (ys_ev (nw := true) hT rfl sI) sF ?_ | refine ga_skip (by decide +kernel) rfl rfl sF ?_ | refine ga_take (by decide +kernel) rfl rfl (ys_blk hT rfl rfl mE rfl rfl) sF ?_ | refine ga_take (by decide +kernel) rfl rfl (ys_row hT rfl rfl mE rfl rfl) sF ?_ | refine ga_take (by decide +kernel) rfl rfl (ys_row0 hT rfl rfl mE rfl rfl) sF ?_ | (refine ga_mv (by decide +kernel) rfl ?_; (first | (refine mv_box rfl rfl rfl rfl ?_; intro _) | (refine mv_alloc rfl hT rfl rfl ?_; intro _) | refine mv_store hT rfl rfl rfl rfl rfl rfl sO rfl ?_ | (refine mv_buildSlice rfl hT rfl rfl rfl rfl rfl rfl rfl rfl ?_; intro _)); refine ⟨sF, ?_⟩) | refine ga_take (by decide +kernel) rfl rfl (ys_eql rfl rfl rfl rfl rfl (by kernel_rfl)) sF ?_ | refine ga_take (by decide +kernel) rfl rfl (ys_neq rfl rfl rfl rfl rfl (by kernel_rfl)) sF ?_))
      (repeat (refine gG ?_; try intro _))
      refine gk_cond rfl rfl (tells_tB _) (fun h2 => ?_) (fun h2 => ?_)
      · (repeat (refine gG ?_; try intro _))
        refine gk_ret hT rfl rfl (.tmp rfl .nil) (fun w' hk => ?_)
        refine ⟨?_, hk.toBelow⟩
        rw [tB_false (list_ne hy hy' (fun e => h2 (by subst e; exact rfl)))]
        rfl
      · (repeat (refine gG ?_; try intro _))
        refine gk_again rfl (k + 1) ⟨by omega, fun i hi => ?_⟩ (by omega) ⟨rfl, rfl, rfl, rfl, trivial⟩ sL sS
        by_cases e : i = k
        · subst e
          rw [hy, hy', show y = y' from id (Classical.byContradiction h2)]
        · exact hp i (by omega)
    · (repeat (refine gG ?_; try intro _))
      refine gk_ret hT rfl rfl (.tmp rfl .nil) (fun w' hk => ?_)
      refine ⟨?_, hk.toBelow⟩
      rw [tB_true (list_eq (by omega) (fun i hi => hp i (by omega)))]
      rfl
  · refine g_enter0 T [] [] [] Tryz.func12 rfl Tryz.ntmps12 rfl (Kn.start _) ?_
    (repeat' (first | (refine gG ?_; try intro _) | ((first | refine g_split rfl rfl tE (fun _ => ?_) (fun _ => ?_) | refine gk_cond rfl rfl tE (fun _ => ?_) (fun _ => ?_)) <;> (try first | (exfalso; omega; done) | (rename_i hx; exact absurd rfl hx) | (rename_i hx; cases hx; done)))))
    refine gk_ret hT rfl rfl (.tmp rfl .nil) (fun w' hk => ?_)
    refine ⟨?_, hk.toBelow⟩
    rw [tB_false (fun e => hne (by rw [hn, hn', e]))]
    rfl
theorem oneU : ∀ (x : Int) (j : Nat), (IE .u32 x j).oneCell' = true := fun x j => rfl
/-- Where it is first. -/
def posU : List Int → Int → Int
  | [], _ => -1
  | y :: r, x => if y = x then 0 else if posU r x = -1 then -1 else posU r x + 1
theorem posU_at : ∀ {L : List Int} {k : Nat} {x : Int}, L[k]? = some x → (∀ i, i < k → L[i]? ≠ some x) → posU L x = (k : Int)
  | [], k, x, h, _ => by simp at h
  | y :: r, 0, x, h, _ => by
    rw [List.getElem?_cons_zero] at h
    unfold posU
    rw [if_pos (Option.some.inj h)]
    rfl
  | y :: r, k + 1, x, h, hn => by
    have h0 := hn 0 (Nat.succ_pos _)
    rw [List.getElem?_cons_zero] at h0
    rw [List.getElem?_cons_succ] at h
    have ih := posU_at h (fun i hi => by have := hn (i + 1) (Nat.succ_lt_succ hi); rwa [List.getElem?_cons_succ] at this)
    unfold posU
    rw [if_neg (fun e => h0 (congrArg some e)), ih, if_neg (by omega)]
    omega
theorem posU_no : ∀ {L : List Int} {x : Int}, (∀ i, i < L.length → L[i]? ≠ some x) → posU L x = -1
  | [], x, _ => rfl
  | y :: r, x, hn => by
    have h0 := hn 0 (Nat.succ_pos _)
    rw [List.getElem?_cons_zero] at h0
    have ih := posU_no (L := r) (x := x) (fun i hi => by have := hn (i + 1) (Nat.succ_lt_succ hi); rwa [List.getElem?_cons_succ] at this)
    unfold posU
    rw [if_neg (fun e => h0 (congrArg some e)), if_pos ih]
theorem posU_ge : ∀ (L : List Int) (x : Int), -1 ≤ posU L x
  | [], x => Int.le_refl _
  | y :: r, x => by
    have := posU_ge r x
    unfold posU
    split
    · omega
    · split <;> omega
theorem posU_mem : ∀ {L : List Int} {x : Int}, 0 ≤ posU L x ↔ x ∈ L
  | [], x => ⟨fun h => absurd h (by unfold posU; decide), fun h => by cases h⟩
  | y :: r, x => by
    have ih := posU_mem (L := r) (x := x)
    have hg := posU_ge r x
    rw [List.mem_cons, ← ih, show posU (y :: r) x = if y = x then 0 else if posU r x = -1 then -1 else posU r x + 1 from rfl]
    by_cases e : y = x
    · rw [if_pos e]; exact ⟨fun _ => .inl e.symm, fun _ => Int.le_refl _⟩
    · rw [if_neg e]
      by_cases e2 : posU r x = -1
      · rw [if_pos e2, e2]; exact ⟨fun h => absurd h (by decide), fun h => by rcases h with h | h; exact absurd h.symm e; exact absurd h (by decide)⟩
      · rw [if_neg e2]; exact ⟨fun _ => .inr (by omega), fun _ => by omega⟩
theorem idx_any (A : Option Addr) (n c : Nat) (L : List Int) (id : Int) (w : World) (hn : n = L.length) (h9 : n ≤ maxLen) (hs : Rd1 w (sl A 1 (IE .u32) L)) :
    Calls Tryz.prog 43 [.slice A n c, .int .u32 id].toArray w fun e w' => e = .returned (.int .i64 (posU L id)) ∧ Below w.heap.size w w' := by
  unfold maxLen at h9
  refine g_enter0 T [] [] [sl A 1 (IE .u32) L] Tryz.func43 rfl Tryz.ntmps43 rfl (Rds.cons hs .nil).kn ?_
  (repeat (refine gG ?_; try intro _))
  refine gk_loop_sel (fun (q : Nat × Nat) => match q with | (k, u) => (k ≤ n ∧ ∀ i, i < k → L[i]? ≠ some id)) (fun (q : Nat × Nat) => match q with | (k, u) => [(0, .slice A n c), (1, .int .u32 id), (7, .int .i64 n), (8, .int .i64 k)]) (fun (q : Nat × Nat) => match q with | (k, u) => []) (fun (q : Nat × Nat) => match q with | (k, u) => [sl A 1 (IE .u32) L]) (fun (q : Nat × Nat) => match q with | (k, u) => n - k) (0, 0) rfl ⟨Nat.zero_le _, fun i hi => absurd hi (Nat.not_lt_zero _)⟩ (by repeat (first | exact trivial | refine ⟨rfl, ?_⟩)) sA sS ?_
  rintro ⟨k, u⟩ hI
  replace hI : (k ≤ n ∧ ∀ i, i < k → L[i]? ≠ some id) := hI
  change GK _ _ [(0, .slice A n c), (1, .int .u32 id), (7, .int .i64 n), (8, .int .i64 k)] [] [sl A 1 (IE .u32) L]
  obtain ⟨hk1, hp⟩ := hI
  by_cases hlt : k < n
  · obtain ⟨x, hx⟩ : ∃ x, L[k]? = some x := ⟨L[k], List.getElem?_eq_getElem (by omega)⟩
    refine gk_elem (enc := IE .u32) (L := L) k mE (by omega) (by decide) (fun b o y eA hy => ?_)
    subst eA
    obtain rfl : x = y := by rw [hx] at hy; exact Option.some.inj hy
    (repeat (refine gG ?_; try intro _))
    refine gk_cond rfl rfl (tells_tB _) (fun _ => ?_) (fun h => absurd (by omega) h)
    (repeat (refine gG ?_; try intro _))
    refine gk_cond rfl rfl (tells_tB _) (fun he => ?_) (fun he => ?_)
    · (repeat (refine gG ?_; try intro _))
      refine gk_ret hT rfl rfl (.tmp rfl .nil) (fun w' hk => ?_)
      refine ⟨?_, hk.toBelow⟩
      have : posU L id = (k : Int) := posU_at (by rw [hx]; exact congrArg some he.symm) hp
      rw [this]
      rfl
    · (repeat (refine gG ?_; try intro _))
      refine gk_again_sel rfl (k + 1, u) ⟨by omega, fun i hi => by
        by_cases e : i = k
        · subst e; rw [hx]; exact fun h => he (Option.some.inj h).symm
        · exact hp i (by omega)⟩ (by dsimp only; omega) (by repeat (first | exact trivial | refine ⟨rfl, ?_⟩)) sA sS
  · (repeat' (first | (refine gG ?_; try intro _) | ((first | refine g_split rfl rfl tE (fun _ => ?_) (fun _ => ?_) | refine gk_cond rfl rfl tE (fun _ => ?_) (fun _ => ?_)) <;> (try first | (exfalso; omega; done) | (rename_i hx; exact absurd rfl hx) | (rename_i hx; cases hx; done)))))
    refine gk_ret hT rfl rfl (.tmp rfl .nil) (fun w' hk => ?_)
    refine ⟨?_, hk.toBelow⟩
    have : posU L id = -1 := posU_no fun i hi => hp i (by omega)
    rw [this]
    rfl
theorem cont_any (A : Option Addr) (n c : Nat) (L : List Int) (id : Int) (w : World) (hn : n = L.length) (h9 : n ≤ maxLen) (hs : Rd1 w (sl A 1 (IE .u32) L)) :
    Calls Tryz.prog 19 [.slice A n c, .int .u32 id].toArray w fun e w' => e = .returned (.bool (tB (id ∈ L))) ∧ Below w.heap.size w w' := by
  refine g_enter0 T [] [] [sl A 1 (IE .u32) L] Tryz.func19 rfl Tryz.ntmps19 rfl (Rds.cons hs .nil).kn ?_
  (repeat' (first | (refine gG ?_; try intro _) | (refine g_mv rfl ?_; first | refine mv_call_bel (fun w hk => idx_any A n c L id w hn h9 (hk.rR mE)) rfl rfl rfl rfl rfl (by kernel_rfl) ?_) | ((first | refine g_split rfl rfl tE (fun _ => ?_) (fun _ => ?_) | refine gk_cond rfl rfl tE (fun _ => ?_) (fun _ => ?_)) <;> (try first | (exfalso; omega; done) | (rename_i hx; exact absurd rfl hx) | (rename_i hx; cases hx; done)))))
  refine gk_ret hT rfl rfl (.tmp rfl .nil) (fun w' hk => ?_)
  exact ⟨by rw [← tB_congr (posU_mem (L := L) (x := id))]; rfl, hk.toBelow⟩
theorem rblock_any (a lg : Nat) (ha : 1 ≤ a) (ha9 : a ≤ 4294967295) (hl : lg ≤ 100000) (w : World) : Calls Tryz.prog 27 [.int .u32 (a : Nat), .int .i64 (lg : Nat)].toArray w fun e w' => e = .returned (.int .i64 ((a + lg + 1 : Nat) : Int)) ∧ Below w.heap.size w w' := by
  refine g_enter0 T [] [] [] Tryz.func27 rfl Tryz.ntmps27 rfl (Kn.start _) ?_
  (repeat' (first | (refine gG ?_; try intro _) | ((first | refine g_split rfl rfl tE (fun _ => ?_) (fun _ => ?_) | refine gk_cond rfl rfl tE (fun _ => ?_) (fun _ => ?_)) <;> (try first | (exfalso; omega; done) | (rename_i hx; exact absurd rfl hx) | (rename_i hx; cases hx; done)))))
  refine gk_ret hT rfl rfl (.tmp rfl .nil) (fun w' hk => ?_)
  exact ⟨congrArg (fun q => Ending.returned (.int .i64 q)) (by omega), hk.toBelow⟩
theorem pwrite_any (g lg : Nat) (sv lv : Value) (S : List SecD) (W : List WrD) (a : Nat) (bA : Option Addr) (bn bc : Nat) (B : List Int) (w : World) (ho : DkOk S W) (hl : W.length ≤ 100000) (ha : 1 ≤ a) (ha9 : a ≤ 4294967295) (hlg : lg ≤ 100000) (hS : a + lg + 1 < S.length) (hbn : bn = B.length) (hB : SecOk B) (h : Rd1 w (dkF g ⟨sv, lv, S, W⟩)) (hb : Rd1 w (sl bA 1 (IE .u8) B)) (hbd : ∀ b, (dkF g ⟨sv, lv, S, W⟩).S b → ¬ (sl bA 1 (IE .u8) B).S b) :
    Calls Tryz.prog 9 [.agg #[.pointer (some ⟨g, 0, none⟩), .int .i64 (lg : Nat)], .int .u32 (a : Nat), .slice bA bn bc].toArray w (RetM (dkF g ⟨sv, lv, S, W⟩) (fun q : Value × SecD => q.2.Ok ∧ q.2.L = B) (fun _ => .int .i64 0) (fun q => dkF g ⟨sv, q.1, S, W ++ [(⟨a + lg + 1, q.2⟩ : WrD)]⟩) w) := by
  refine g_enter0 T (finE (dkF g ⟨sv, lv, S, W⟩) w) [dkF g ⟨sv, lv, S, W⟩] [sl bA 1 (IE .u8) B] Tryz.func9 rfl Tryz.ntmps9 rfl (Kn.startM h (fun b hb => (finE_mem h.2 b).2 hb) (fun ψ hψ => by obtain rfl := List.mem_singleton.1 hψ; exact ⟨hb, hbd⟩)) ?_
  (repeat' (first | (refine gG ?_; try intro _) | ((first | refine g_split rfl rfl tE (fun _ => ?_) (fun _ => ?_) | refine gk_cond rfl rfl tE (fun _ => ?_) (fun _ => ?_)) <;> (try first | (exfalso; omega; done) | (rename_i hx; exact absurd rfl hx) | (rename_i hx; cases hx; done)))))
  rename_i g2 _
  refine gk_any [0, 2] (Cut _ (fun q : {q : Value × SecD // q.2.Ok ∧ q.2.L = B} => [(6, .int .i64 0)]) (fun q => [dkF g ⟨sv, q.1.1, S, W ++ [(⟨a + lg + 1, q.1.2⟩ : WrD)]⟩]) (fun _ => [])) rfl rfl (by kernel_rfl) ?_ (cut_k fun q => ?_)
  · skip
    refine gb_take 0 rfl (by decide +kernel) rfl rfl (ys_ev (nw := true) hT rfl sI) sF ?_
    refine gb_take 1 rfl (by decide +kernel) rfl rfl (by first | exact ys_blk hT rfl rfl mE rfl rfl | exact ys_row hT rfl rfl mE rfl rfl | exact ys_row0 hT rfl rfl mE rfl rfl) sF ?_
    refine gb_take 2 rfl (by decide +kernel) rfl rfl (ys_ev (nw := true) hT rfl sI) sF ?_
    refine gb_take 3 rfl (by decide +kernel) rfl rfl (ys_ev (nw := true) hT rfl sI) sF ?_
    refine gb_take 4 rfl (by decide +kernel) rfl rfl (by first | exact ys_blk hT rfl rfl mE rfl rfl | exact ys_row hT rfl rfl mE rfl rfl | exact ys_row0 hT rfl rfl mE rfl rfl) sF ?_
    refine gb_take 6 rfl (by decide +kernel) rfl rfl (ys_ev (nw := true) hT rfl sI) sF ?_
    refine gb_only 5 (by decide +kernel) rfl rfl ?_
    refine mv_call_bel (fun w hk => rblock_any a lg ha ha9 hlg w) rfl rfl rfl rfl rfl (by kernel_rfl) ?_
    refine ⟨sF, ?_⟩
    refine gb_only 7 (by decide +kernel) rfl rfl ?_
    refine mv_call_mod (φ := dkF g ⟨sv, lv, S, W⟩) (ψ := fun q : Value × SecD => dkF g ⟨sv, q.1, S, W ++ [(⟨a + lg + 1, q.2⟩ : WrD)]⟩) (fun w1 hk => by exact dwrite_any g sv lv S W (a + lg + 1) bA bn bc B w1 ho hl hS hbn hB (hk.rO (φ := dkF g ⟨sv, lv, S, W⟩) mE) (hk.rR (φ := sl bA 1 (IE .u8) B) mE) (fun b hb => hk.disR (dkF g ⟨sv, lv, S, W⟩) mE (sl bA 1 (IE .u8) B) mE b hb)) rfl rfl rfl rfl rfl (by kernel_rfl) (by intro _; first | ((repeat (first | with_reducible exact Upd.here _ | with_reducible apply Upd.there)); done) | ((repeat (first | exact Upd.here _ | apply Upd.there)); done) | fail) (fun q hq => ?_)
    refine ⟨sF, ?_⟩
    refine gb_take 8 rfl (by decide +kernel) rfl rfl (ys_ev (nw := true) hT rfl sI) sF ?_
    refine gb_nil (by decide +kernel) ?_
    exact ⟨⟨q, hq⟩, (by repeat (first | exact trivial | refine ⟨rfl, ?_⟩)), sA, sS⟩
  · obtain ⟨q, hq⟩ := q
    (repeat (refine gG ?_; try intro _))
    refine gk_ret hT rfl rfl (.tmp rfl .nil) (fun w' hk => ?_)
    exact RetM.mk (ψ := fun q : Value × SecD => dkF g ⟨sv, q.1, S, W ++ [(⟨a + lg + 1, q.2⟩ : WrD)]⟩) q hq rfl hk (fun b hb => (finE_mem h.2 b).1 hb) mE
end Go.Proofs.YtaghmffgoomebaaGreat.Ch
namespace Go.Proofs.YtaghmffgoomebaaGreat.KyU
open Go.RowKit Mem Gx
set_option linter.unusedVariables false
set_option linter.unusedSimpArgs false
set_option maxRecDepth 100000
set_option maxHeartbeats 1000000
theorem elt_K : Elt Tryz.prog 43 26 1 4 := Elt.mk' (z := .int .u32 0) Tryz.underlying43 (by kernel_rfl) rfl (by decide)
/-- Keys that have come, and their places. -/
structure GoodK (M : List (Int × Value)) (q : List Nat × List (Int)) : Prop where
  nd : q.1.Nodup
  lt : ∀ i, i ∈ q.1 → i < M.length
  pm : q.2.Perm (q.1.filterMap fun i => (M[i]?).map (·.1))
theorem GoodK.step {M : List (Int × Value)} {Q : List Nat} {ys : List (Int)} {i : Nat} {x : Int} {v : Value} (g : GoodK M (Q, ys)) (hi : M[i]? = some (x, v)) (hq : i ∉ Q) : GoodK M (i :: Q, ys ++ [x]) :=
  ⟨List.nodup_cons.2 ⟨hq, g.nd⟩, fun j hj => by
    rcases List.mem_cons.1 hj with rfl | hj
    · exact (List.getElem?_eq_some_iff.1 hi).1
    · exact g.lt j hj, by
    have e : (i :: Q).filterMap (fun i => (M[i]?).map (·.1)) = x :: Q.filterMap (fun i => (M[i]?).map (·.1)) := by rw [List.filterMap_cons, hi]; rfl
    show (ys ++ [x]).Perm ((i :: Q).filterMap fun i => (M[i]?).map (·.1))
    rw [e]
    exact (List.perm_append_singleton x ys).trans (g.pm.cons x)⟩
theorem range_keys (M : List (Int × Value)) (k : Nat) (hk : k ≤ M.length) : (List.range k).filterMap (fun i => (M[i]?).map (·.1)) = (M.take k).map (·.1) := by
  induction k with
  | zero => rfl
  | succ k ih =>
    have e : M[k]? = some M[k] := List.getElem?_eq_getElem (by omega)
    rw [List.range_succ, List.filterMap_append, ih (by omega), List.take_succ_eq_append_getElem (by omega), List.map_append, List.filterMap_cons, e]
    rfl
theorem GoodK.fin {M : List (Int × Value)} {q : List Nat × List (Int)} (g : GoodK M q) (h : ∀ i, i < M.length → i ∈ q.1) : q.2.Perm (M.map (·.1)) := by
  have h1 : q.1.Perm (List.range M.length) := (List.perm_ext_iff_of_nodup g.nd List.nodup_range).2 fun i => by
    rw [List.mem_range]
    exact ⟨g.lt i, h i⟩
  have h2 := range_keys M M.length (Nat.le_refl _)
  rw [List.take_length] at h2
  rw [← h2]
  exact g.pm.trans (h1.filterMap _)
end Go.Proofs.YtaghmffgoomebaaGreat.KyU
namespace Go.Proofs.YtaghmffgoomebaaGreat.Rf
open Go.RowKit Mem Gx
set_option linter.unusedVariables false
set_option linter.unusedSimpArgs false
set_option maxRecDepth 100000
set_option maxHeartbeats 1000000
theorem kok_u : KOk Tryz.prog 26 (Value.int .u32) := kok_int Tryz.underlying26
theorem zero_I : ∀ w, (zeroValue 3).run Tryz.prog w = .ok (.int .i64 0) w := fun w => rfl
/-- A table: its map (if there is one), its sum. -/
structure TabS where
  r : Option Nat
  M : List (Int × Value)
  sum : Int
def tbL (t : Nat) (T : TabS) : List Fact := match T.r with
  | none => [blk t [.map none, .int .i64 T.sum] 98]
  | some r => [blk t [.map (some r), .int .i64 T.sum] 98, mpk r (Value.int .u32) T.M]
abbrev tbF (t : Nat) (T : TabS) : Fact := packF (tbL t T)
def cntV (l : List Int) (k : Int) : Option Value := if l.count k = 0 then none else some (.int .i64 (l.count k : Int))
/-- The table is of a row. -/
structure RfI (T : TabS) (l : List Int) : Prop where
  nil : T.r = none → l = []
  sum : T.sum = l.length
  map : MapIs T.M (cntV l)
  len : l.length ≤ 1000
theorem RfI.look {T : TabS} {l : List Int} (h : RfI T l) (k : Int) : ((lkG k T.M 0).map (·.2)).getD (.int .i64 0) = .int .i64 (l.count k : Int) := by
  have h1 : mg k T.M = cntV l k := h.map.get k
  unfold mg at h1
  rw [h1]
  unfold cntV
  split
  · rename_i h0; rw [h0]; rfl
  · rfl
theorem RfI.fin (t : Nat) (T : TabS) : ∃ E : List Nat, ∀ b, (tbF t T).S b ↔ b ∈ E := by
  obtain ⟨r, M, s⟩ := T
  cases r with
  | none => exact ⟨[t], fun b => ⟨fun ⟨φ, hφ, hb⟩ => by obtain rfl := List.mem_singleton.1 hφ; exact List.mem_singleton.2 hb, fun hb => ⟨_, .head _, List.mem_singleton.1 hb⟩⟩⟩
  | some r => exact ⟨[t, r], fun b => ⟨fun ⟨φ, hφ, hb⟩ => by
      rcases List.mem_cons.1 hφ with rfl | hφ
      · have : b = t := hb
        rw [this]; exact .head _
      · obtain rfl := List.mem_singleton.1 hφ
        have : b = r := hb
        rw [this]; exact .tail _ (.head _), fun hb => by
      rcases List.mem_cons.1 hb with rfl | hb
      · exact ⟨_, .head _, rfl⟩
      · obtain rfl := List.mem_singleton.1 hb
        exact ⟨_, .tail _ (.head _), rfl⟩⟩⟩
theorem cnt_snoc (l : List Int) (b k : Int) : (l ++ [b]).count k = l.count k + if k = b then 1 else 0 := by
  rw [List.count_append, List.count_singleton]
  by_cases h : k = b
  · subst h; simp
  · rw [if_neg h, if_neg (by simpa using fun e => h e.symm)]
end Go.Proofs.YtaghmffgoomebaaGreat.Rf
