/- Calls of chains and stores: page.Put, page.Of, bytes.Equal, rows of uint32, a place's blocks. maps.Keys, and what is made of it (uint32). refs.Table: Count, Hold, Drop, Len, Sum. Heaps as lists: what a step up or down leaves. -/
import Derived.Test.YtaghmffgoomebaaGreatPage7
import Derived.Test.YtaghmffgoomebaaGreatGxW
import Derived.Test.YtaghmffgoomebaaGreatGxP
import Derived.Orders
import Derived.Test.YtaghmffgoomebaaGreatDk8
import Derived.Test.YtaghmffgoomebaaGreatDk6
import Derived.Test.YtaghmffgoomebaaGreatGxQ
namespace Go.Proofs.YtaghmffgoomebaaGreat.Ch
open Go.RowKit Mem Gx Bytes Dk
set_option linter.unusedVariables false
set_option linter.unusedSimpArgs false
set_option maxRecDepth 100000
set_option maxHeartbeats 2000000
theorem ret_of_own {α : Type} [Inhabited α] {F : Value → Value} {sz : Nat} {enc : α → Nat → Value} {L : List α} {P : Program} {fid : FuncId} {args : Array Value} {w : World} {e' : TypeId} (hsz : 0 < sz) (h : Calls P fid args w fun e w' => ∃ v, e = .returned (F v) ∧ OwnL w' w.heap.size e' sz v enc L ∧ Below w.heap.size w w') :
    Calls P fid args w (Ret (fun s : SlV => s.Ok L.length) (fun s => F s.v) (fun s => [sl s.A sz enc L]) w) :=
  h.mono fun e w' ⟨v, h1, h2, h3⟩ => by
    obtain ⟨A, c, rfl, k1, k2, k3, k4, k5⟩ := OwnL.sl h2
    refine ⟨⟨A, _, c⟩, ⟨rfl, k2, k3, k4⟩, h1, ⟨h3, fun φ hφ => ?_, List.pairwise_singleton _ _⟩⟩
    obtain rfl := List.mem_singleton.1 hφ
    refine ⟨k1, fun b hb => ?_⟩
    obtain ⟨_, a, ha, hab⟩ := hb
    rw [← hab]
    exact k5 a ha
abbrev RetB (F : Value → Value) (L : List Int) (w : World) : Ending → World → Prop := Ret (fun s : SlV => s.Ok L.length) (fun s => F s.v) (fun s => [sl s.A 1 (IE .u8) L]) w
theorem pput_any (k : Int) (s : SlV) (L : List Int) (w : World) (h1 : 1 ≤ k) (h2 : k ≤ 6) (hs : s.Ok L.length) (hL : L.length ≤ 120) (h : Sl w s.A 1 (IE .u8) L) (hB : IsB L) :
    Calls Tryz.prog 102 [.int .i64 k, s.v].toArray w (RetB (fun v => .tuple #[v, .int .i64 0]) (Page.page k L) w) :=
  ret_of_own (by decide) (Page.put_ok k s.A s.n s.c L w h1 h2 hs.n (by rw [hs.n]; exact hL) h hB)
theorem own_sl {E : List Nat} {w0 w : World} {O R : List Fact} {α : Type} [Inhabited α] {base e sz n c : Nat} {A : Option Addr} {enc : α → Nat → Value} {L : List α} (hk : Kn E w0 w O R) (h : own base e sz (.slice A n c) enc L ∈ O) : Sl w A sz enc L := by
  obtain ⟨A', c', hv, hs, _⟩ := hk.ownSl h
  injection hv with h1 h2 h3
  subst h1
  exact hs
theorem elt_U : Elt Tryz.prog 43 26 1 4 := Elt.mk' (z := .int .u32 0) Tryz.underlying43 (by kernel_rfl) rfl (by decide)
theorem equal_U (A A' : Option Addr) (n c n' c' : Nat) (L L' : List Int) (w : World) (hn : n = L.length) (hn' : n' = L'.length) (h9 : n ≤ 9223372036854775807) (hs : Sl w A 1 (IE .u32) L) (hs' : Sl w A' 1 (IE .u32) L') :
    Calls Tryz.prog 12 [.slice A n c, .slice A' n' c'].toArray w fun e w' => e = .returned (.bool (tB (L = L'))) ∧ Below w.heap.size w w' := by
  by_cases hne : n = n'
  · subst hne
    refine g_enter0 T [] [] [sl A' 1 (IE .u32) L', sl A 1 (IE .u32) L] Tryz.func12 rfl Tryz.ntmps12 rfl (((Kn.start w).argR hs (by decide) (fun _ h => by cases h)).argR hs' (by decide) (fun _ h => by cases h)) ?_
    (repeat' (first | (refine gG ?_; try intro _) | ((first | refine g_split rfl rfl tE (fun _ => ?_) (fun _ => ?_) | refine gk_cond rfl rfl tE (fun _ => ?_) (fun _ => ?_)) <;> (try first | (exfalso; omega; done) | (rename_i hx; exact absurd rfl hx) | (rename_i hx; cases hx; done)))))
    refine gk_loop (fun k : Nat => k ≤ n ∧ ∀ i, i < k → L[i]? = L'[i]?) (fun k => [(0, .slice A n c), (1, .slice A' n c'), (12, .int .i64 n), (13, .int .i64 k)]) (fun _ => []) (fun _ => [sl A' 1 (IE .u32) L', sl A 1 (IE .u32) L]) (fun k => n - k) 0 rfl ⟨Nat.zero_le _, fun i hi => absurd hi (Nat.not_lt_zero _)⟩ ⟨rfl, rfl, rfl, rfl, trivial⟩ sL sS ?_
    rintro k ⟨hk, hp⟩
    (repeat (refine gG ?_; try intro _))
    refine gk_cond rfl rfl (tells_tB _) (fun h1 => ?_) (fun h1 => ?_)
    · have hkn : k < n := by omega
      refine gk_elem (enc := (IE .u32)) (L := L) k mE (by omega) (by decide) (fun b off y eA hy => ?_)
      refine gk_elem (enc := (IE .u32)) (L := L') k mE (by omega) (by decide) (fun b' off' y' eA' hy' => ?_)
      subst eA
      subst eA'
      (repeat (refine gG ?_; try intro _))
      refine gk_drawn_at [0, 1] rfl rfl (by kernel_rfl) ?_
      (repeat (first | refine ga_nil (by decide +kernel) ?_ | refine ga_take (by decide +kernel) rfl rfl (ys_ev (nw := true) hT rfl sI) sF ?_ | refine ga_skip (by decide +kernel) rfl rfl sF ?_ | refine ga_take (by decide +kernel) rfl rfl (ys_blk hT rfl rfl mE rfl rfl) sF ?_ | refine ga_take (by decide +kernel) rfl rfl (ys_row hT rfl rfl mE rfl rfl) sF ?_ | refine ga_take (by decide +kernel) rfl rfl (ys_row0 hT rfl rfl mE rfl rfl) sF ?_ | (refine ga_mv (by decide +kernel) rfl ?_; (first | (refine mv_box rfl rfl rfl rfl ?_; intro _) | (refine mv_alloc rfl hT rfl rfl ?_; intro _) | refine mv_store hT rfl rfl rfl rfl rfl rfl sO rfl ?_ | (refine mv_buildSlice rfl hT rfl rfl rfl rfl rfl rfl rfl rfl ?_; intro _)); refine ⟨sF, ?_⟩) | refine ga_take (by decide +kernel) rfl rfl (ys_eql rfl rfl rfl rfl rfl (by kernel_rfl)) sF ?_ | refine ga_take (by decide +kernel) rfl rfl (ys_neq rfl rfl rfl rfl rfl (by kernel_rfl)) sF ?_))
      (repeat (refine gG ?_; try intro _))
      refine gk_cond rfl rfl (tells_tB _) (fun h2 => ?_) (fun h2 => ?_)
      · (repeat (refine gG ?_; try intro _))
        refine gk_ret hT rfl rfl (.tmp rfl .nil) (fun w' hk => ?_)
        refine ⟨?_, hk.toBelow⟩
        rw [tB_false (list_ne hy hy' (fun e => h2 (by subst e; exact rfl)))]
        rfl
      · (repeat (refine gG ?_; try intro _))
        refine gk_again rfl (k + 1) ⟨by omega, fun i hi => ?_⟩ (by omega) ⟨rfl, rfl, rfl, rfl, trivial⟩ sL sS
        by_cases e : i = k
        · subst e
          rw [hy, hy', show y = y' from id (Classical.byContradiction h2)]
        · exact hp i (by omega)
    · (repeat (refine gG ?_; try intro _))
      refine gk_ret hT rfl rfl (.tmp rfl .nil) (fun w' hk => ?_)
      refine ⟨?_, hk.toBelow⟩
      rw [tB_true (list_eq (by omega) (fun i hi => hp i (by omega)))]
      rfl
  · refine g_enter0 T [] [] [] Tryz.func12 rfl Tryz.ntmps12 rfl (Kn.start _) ?_
    (repeat' (first | (refine gG ?_; try intro _) | ((first | refine g_split rfl rfl tE (fun _ => ?_) (fun _ => ?_) | refine gk_cond rfl rfl tE (fun _ => ?_) (fun _ => ?_)) <;> (try first | (exfalso; omega; done) | (rename_i hx; exact absurd rfl hx) | (rename_i hx; cases hx; done)))))
    refine gk_ret hT rfl rfl (.tmp rfl .nil) (fun w' hk => ?_)
    refine ⟨?_, hk.toBelow⟩
    rw [tB_false (fun e => hne (by rw [hn, hn', e]))]
    rfl
theorem oneU : ∀ (x : Int) (j : Nat), (IE .u32 x j).oneCell' = true := fun x j => rfl
theorem rblock_any (a lg : Nat) (ha : 1 ≤ a) (ha9 : a ≤ 4294967295) (hl : lg ≤ 100000) (w : World) : Calls Tryz.prog 27 [.int .u32 (a : Nat), .int .i64 (lg : Nat)].toArray w fun e w' => e = .returned (.int .i64 ((a + lg + 1 : Nat) : Int)) ∧ Below w.heap.size w w' := by
  refine g_enter0 T [] [] [] Tryz.func27 rfl Tryz.ntmps27 rfl (Kn.start _) ?_
  (repeat' (first | (refine gG ?_; try intro _) | ((first | refine g_split rfl rfl tE (fun _ => ?_) (fun _ => ?_) | refine gk_cond rfl rfl tE (fun _ => ?_) (fun _ => ?_)) <;> (try first | (exfalso; omega; done) | (rename_i hx; exact absurd rfl hx) | (rename_i hx; cases hx; done)))))
  refine gk_ret hT rfl rfl (.tmp rfl .nil) (fun w' hk => ?_)
  exact ⟨congrArg (fun q => Ending.returned (.int .i64 q)) (by omega), hk.toBelow⟩
theorem pread_any (g lg : Nat) (sv lv : Value) (S : List SecD) (W : List WrD) (a : Nat) (w : World) (ho : DkOk S W) (hl : W.length ≤ 100000) (ha : 1 ≤ a) (ha9 : a ≤ 4294967295) (hlg : lg ≤ 100000) (hS : a + lg + 1 < S.length) (h : Rd1 w (dkF g ⟨sv, lv, S, W⟩)) :
    Calls Tryz.prog 50 [.agg #[.pointer (some ⟨g, 0, none⟩), .int .i64 (lg : Nat)], .int .u32 (a : Nat)].toArray w (Ret (fun s : SlV => s.Ok (dread (S.map SecD.L) (W.map WrD.c) (a + lg + 1)).length) (fun s => .tuple #[.slice s.A s.n s.c, .int .i64 0]) (fun s => [sl s.A 1 (IE .u8) (dread (S.map SecD.L) (W.map WrD.c) (a + lg + 1))]) w) := by
  refine g_enter0 T [] [] [dkF g ⟨sv, lv, S, W⟩] Tryz.func50 rfl Tryz.ntmps50 rfl (Rds.cons h .nil).kn ?_
  (repeat' (first | (refine gG ?_; try intro _) | ((first | refine g_split rfl rfl tE (fun _ => ?_) (fun _ => ?_) | refine gk_cond rfl rfl tE (fun _ => ?_) (fun _ => ?_)) <;> (try first | (exfalso; omega; done) | (rename_i hx; exact absurd rfl hx) | (rename_i hx; cases hx; done)))))
  rename_i g2 _
  refine gk_any [0, 1] (Cut _ (fun u : {s : SlV // s.Ok (dread (S.map SecD.L) (W.map WrD.c) (a + lg + 1)).length} => [(4, .slice u.1.A u.1.n u.1.c), (5, .int .i64 0)]) (fun u => [sl u.1.A 1 (IE .u8) (dread (S.map SecD.L) (W.map WrD.c) (a + lg + 1))]) (fun _ => [])) rfl rfl (by kernel_rfl) ?_ (cut_k fun u => ?_)
  · skip
    refine gY hT 0 ?_
    refine gb_take 1 rfl (by decide +kernel) rfl rfl (by first | exact ys_blk hT rfl rfl mE rfl rfl | exact ys_row hT rfl rfl mE rfl rfl | exact ys_row0 hT rfl rfl mE rfl rfl) sF ?_
    refine gY hT 2 ?_
    refine gY hT 3 ?_
    refine gb_take 4 rfl (by decide +kernel) rfl rfl (by first | exact ys_blk hT rfl rfl mE rfl rfl | exact ys_row hT rfl rfl mE rfl rfl | exact ys_row0 hT rfl rfl mE rfl rfl) sF ?_
    refine gb_only 5 (by decide +kernel) rfl rfl ?_
    refine mv_call_bel (fun w hk => rblock_any a lg ha ha9 hlg w) rfl rfl rfl rfl rfl (by kernel_rfl) ?_
    refine ⟨sF, ?_⟩
    refine gb_only 6 (by decide +kernel) rfl rfl ?_
    refine mv_call_ret (fun w hk => dread_any g sv lv S W (a + lg + 1) w ho hl hS (hk.rR (φ := dkF g ⟨sv, lv, S, W⟩) mE)) rfl rfl rfl rfl rfl (by kernel_rfl) (fun u hu => ?_)
    refine ⟨sF, ?_⟩
    refine gY hT 7 ?_
    refine gY hT 8 ?_
    refine gY hT 9 ?_
    refine gY hT 10 ?_
    refine gb_nil (by decide +kernel) ?_
    exact ⟨⟨u, hu⟩, fS, sA, sS⟩
  · obtain ⟨u, hu⟩ := u
    (repeat (refine gG ?_; try intro _))
    refine gk_ret hT rfl rfl (.tmp rfl (.tmp rfl .nil)) (fun w' hk => ?_)
    exact Ret.mk u hu rfl hk sA
theorem pwrite_any (g lg : Nat) (sv lv : Value) (S : List SecD) (W : List WrD) (a : Nat) (bA : Option Addr) (bn bc : Nat) (B : List Int) (w : World) (ho : DkOk S W) (hl : W.length ≤ 100000) (ha : 1 ≤ a) (ha9 : a ≤ 4294967295) (hlg : lg ≤ 100000) (hS : a + lg + 1 < S.length) (hbn : bn = B.length) (hB : SecOk B) (h : Rd1 w (dkF g ⟨sv, lv, S, W⟩)) (hb : Rd1 w (sl bA 1 (IE .u8) B)) (hbd : ∀ b, (dkF g ⟨sv, lv, S, W⟩).S b → ¬ (sl bA 1 (IE .u8) B).S b) :
    Calls Tryz.prog 9 [.agg #[.pointer (some ⟨g, 0, none⟩), .int .i64 (lg : Nat)], .int .u32 (a : Nat), .slice bA bn bc].toArray w (RetM (dkF g ⟨sv, lv, S, W⟩) (fun q : Value × SecD => q.2.Ok ∧ q.2.L = B) (fun _ => .int .i64 0) (fun q => dkF g ⟨sv, q.1, S, W ++ [(⟨a + lg + 1, q.2⟩ : WrD)]⟩) w) := by
  refine g_enter0 T (finE (dkF g ⟨sv, lv, S, W⟩) w) [dkF g ⟨sv, lv, S, W⟩] [sl bA 1 (IE .u8) B] Tryz.func9 rfl Tryz.ntmps9 rfl (Kn.startM h (fun b hb => (finE_mem h.2 b).2 hb) (fun ψ hψ => by obtain rfl := List.mem_singleton.1 hψ; exact ⟨hb, hbd⟩)) ?_
  (repeat' (first | (refine gG ?_; try intro _) | ((first | refine g_split rfl rfl tE (fun _ => ?_) (fun _ => ?_) | refine gk_cond rfl rfl tE (fun _ => ?_) (fun _ => ?_)) <;> (try first | (exfalso; omega; done) | (rename_i hx; exact absurd rfl hx) | (rename_i hx; cases hx; done)))))
  rename_i g2 _
  refine gk_any [0, 2] (Cut _ (fun q : {q : Value × SecD // q.2.Ok ∧ q.2.L = B} => [(6, .int .i64 0)]) (fun q => [dkF g ⟨sv, q.1.1, S, W ++ [(⟨a + lg + 1, q.1.2⟩ : WrD)]⟩]) (fun _ => [])) rfl rfl (by kernel_rfl) ?_ (cut_k fun q => ?_)
  · skip
    refine gY hT 0 ?_
    refine gb_take 1 rfl (by decide +kernel) rfl rfl (by first | exact ys_blk hT rfl rfl mE rfl rfl | exact ys_row hT rfl rfl mE rfl rfl | exact ys_row0 hT rfl rfl mE rfl rfl) sF ?_
    refine gY hT 2 ?_
    refine gY hT 3 ?_
    refine gb_take 4 rfl (by decide +kernel) rfl rfl (by first | exact ys_blk hT rfl rfl mE rfl rfl | exact ys_row hT rfl rfl mE rfl rfl | exact ys_row0 hT rfl rfl mE rfl rfl) sF ?_
    refine gY hT 6 ?_
    refine gb_only 5 (by decide +kernel) rfl rfl ?_
    refine mv_call_bel (fun w hk => rblock_any a lg ha ha9 hlg w) rfl rfl rfl rfl rfl (by kernel_rfl) ?_
    refine ⟨sF, ?_⟩
    refine gb_only 7 (by decide +kernel) rfl rfl ?_
    refine mv_call_mod (φ := dkF g ⟨sv, lv, S, W⟩) (ψ := fun q : Value × SecD => dkF g ⟨sv, q.1, S, W ++ [(⟨a + lg + 1, q.2⟩ : WrD)]⟩) (fun w1 hk => by exact dwrite_any g sv lv S W (a + lg + 1) bA bn bc B w1 ho hl hS hbn hB (hk.rO (φ := dkF g ⟨sv, lv, S, W⟩) mE) (hk.rR (φ := sl bA 1 (IE .u8) B) mE) (fun b hb => hk.disR (dkF g ⟨sv, lv, S, W⟩) mE (sl bA 1 (IE .u8) B) mE b hb)) rfl rfl rfl rfl rfl (by kernel_rfl) uD (fun q hq => ?_)
    refine ⟨sF, ?_⟩
    refine gY hT 8 ?_
    refine gb_nil (by decide +kernel) ?_
    exact ⟨⟨q, hq⟩, fS, sA, sS⟩
  · obtain ⟨q, hq⟩ := q
    (repeat (refine gG ?_; try intro _))
    refine gk_ret hT rfl rfl (.tmp rfl .nil) (fun w' hk => ?_)
    exact RetM.mk (ψ := fun q : Value × SecD => dkF g ⟨sv, q.1, S, W ++ [(⟨a + lg + 1, q.2⟩ : WrD)]⟩) q hq rfl hk (fun b hb => (finE_mem h.2 b).1 hb) mE
end Go.Proofs.YtaghmffgoomebaaGreat.Ch
namespace Go.Proofs.YtaghmffgoomebaaGreat.KyU
open Go.RowKit Mem Gx
set_option linter.unusedVariables false
set_option linter.unusedSimpArgs false
set_option maxRecDepth 100000
set_option maxHeartbeats 1000000
theorem elt_K : Elt Tryz.prog 43 26 1 4 := Elt.mk' (z := .int .u32 0) Tryz.underlying43 (by kernel_rfl) rfl (by decide)
/-- Keys that have come, and their places. -/
structure GoodK (M : List (Int × Value)) (q : List Nat × List (Int)) : Prop where
  nd : q.1.Nodup
  lt : ∀ i, i ∈ q.1 → i < M.length
  pm : q.2.Perm (q.1.filterMap fun i => (M[i]?).map (·.1))
theorem GoodK.step {M : List (Int × Value)} {Q : List Nat} {ys : List (Int)} {i : Nat} {x : Int} {v : Value} (g : GoodK M (Q, ys)) (hi : M[i]? = some (x, v)) (hq : i ∉ Q) : GoodK M (i :: Q, ys ++ [x]) :=
  ⟨List.nodup_cons.2 ⟨hq, g.nd⟩, fun j hj => by
    rcases List.mem_cons.1 hj with rfl | hj
    · exact (List.getElem?_eq_some_iff.1 hi).1
    · exact g.lt j hj, by
    have e : (i :: Q).filterMap (fun i => (M[i]?).map (·.1)) = x :: Q.filterMap (fun i => (M[i]?).map (·.1)) := by rw [List.filterMap_cons, hi]; rfl
    show (ys ++ [x]).Perm ((i :: Q).filterMap fun i => (M[i]?).map (·.1))
    rw [e]
    exact (List.perm_append_singleton x ys).trans (g.pm.cons x)⟩
theorem range_keys (M : List (Int × Value)) (k : Nat) (hk : k ≤ M.length) : (List.range k).filterMap (fun i => (M[i]?).map (·.1)) = (M.take k).map (·.1) := by
  induction k with
  | zero => rfl
  | succ k ih =>
    have e : M[k]? = some M[k] := List.getElem?_eq_getElem (by omega)
    rw [List.range_succ, List.filterMap_append, ih (by omega), List.take_succ_eq_append_getElem (by omega), List.map_append, List.filterMap_cons, e]
    rfl
theorem GoodK.fin {M : List (Int × Value)} {q : List Nat × List (Int)} (g : GoodK M q) (h : ∀ i, i < M.length → i ∈ q.1) : q.2.Perm (M.map (·.1)) := by
  have h1 : q.1.Perm (List.range M.length) := (List.perm_ext_iff_of_nodup g.nd List.nodup_range).2 fun i => by
    rw [List.mem_range]
    exact ⟨g.lt i, h i⟩
  have h2 := range_keys M M.length (Nat.le_refl _)
  rw [List.take_length] at h2
  rw [← h2]
  exact g.pm.trans (h1.filterMap _)
theorem rds_of {w : World} : ∀ {l : List Fact}, (∀ φ, φ ∈ l → Rd1 w φ) → Rds w l
  | [], _ => .nil
  | _ :: _, h => .cons (h _ (.head _)) (rds_of fun φ hφ => h φ (.tail _ hφ))
theorem Kn.rds {E : List Nat} {w0 w : World} {O R l : List Fact} (h : Kn E w0 w O R) (hl : l ⊆ R) : Rds w l := rds_of fun φ hφ => h.rR (hl hφ)
end Go.Proofs.YtaghmffgoomebaaGreat.KyU
namespace Go.Proofs.YtaghmffgoomebaaGreat.Rf
open Go.RowKit Mem Gx
set_option linter.unusedVariables false
set_option linter.unusedSimpArgs false
set_option maxRecDepth 100000
set_option maxHeartbeats 1000000
theorem kok_u : KOk Tryz.prog 26 (Value.int .u32) := kok_int Tryz.underlying26
theorem zero_I : ∀ w, (zeroValue 3).run Tryz.prog w = .ok (.int .i64 0) w := fun w => rfl
/-- A map's entries. -/
def vals (M : List (Int × Int)) : List (Int × Value) := M.map fun p => (p.1, .int .i64 p.2)
/-- A table: its map (if there is one), its sum. -/
structure TabS where
  r : Option Nat
  M : List (Int × Value)
  sum : Int
def tbL (t : Nat) (T : TabS) : List Fact := match T.r with
  | none => [blk t [.map none, .int .i64 T.sum] 98]
  | some r => [blk t [.map (some r), .int .i64 T.sum] 98, mpk r (Value.int .u32) T.M]
abbrev tbF (t : Nat) (T : TabS) : Fact := packF (tbL t T)
def cntV (l : List Int) (k : Int) : Option Value := if l.count k = 0 then none else some (.int .i64 (l.count k : Int))
/-- The table is of a row. -/
structure RfI (T : TabS) (l : List Int) : Prop where
  nil : T.r = none → l = []
  sum : T.sum = l.length
  map : MapIs T.M (cntV l)
  len : l.length ≤ 1000
theorem RfI.look {T : TabS} {l : List Int} (h : RfI T l) (k : Int) : ((lkG k T.M 0).map (·.2)).getD (.int .i64 0) = .int .i64 (l.count k : Int) := by
  have h1 : mg k T.M = cntV l k := h.map.get k
  unfold mg at h1
  rw [h1]
  unfold cntV
  split
  · rename_i h0; rw [h0]; rfl
  · rfl
theorem RfI.fin (t : Nat) (T : TabS) : ∃ E : List Nat, ∀ b, (tbF t T).S b ↔ b ∈ E := by
  obtain ⟨r, M, s⟩ := T
  cases r with
  | none => exact ⟨[t], fun b => ⟨fun ⟨φ, hφ, hb⟩ => by obtain rfl := List.mem_singleton.1 hφ; exact List.mem_singleton.2 hb, fun hb => ⟨_, .head _, List.mem_singleton.1 hb⟩⟩⟩
  | some r => exact ⟨[t, r], fun b => ⟨fun ⟨φ, hφ, hb⟩ => by
      rcases List.mem_cons.1 hφ with rfl | hφ
      · have : b = t := hb
        rw [this]; exact .head _
      · obtain rfl := List.mem_singleton.1 hφ
        have : b = r := hb
        rw [this]; exact .tail _ (.head _), fun hb => by
      rcases List.mem_cons.1 hb with rfl | hb
      · exact ⟨_, .head _, rfl⟩
      · obtain rfl := List.mem_singleton.1 hb
        exact ⟨_, .tail _ (.head _), rfl⟩⟩⟩
theorem cnt_snoc (l : List Int) (b k : Int) : (l ++ [b]).count k = l.count k + if k = b then 1 else 0 := by
  rw [List.count_append, List.count_singleton]
  by_cases h : k = b
  · subst h; simp
  · rw [if_neg h, if_neg (by simpa using fun e => h e.symm)]
end Go.Proofs.YtaghmffgoomebaaGreat.Rf
namespace Go.Proofs.YtaghmffgoomebaaGreat.Hp
set_option linter.unusedVariables false
set_option linter.unusedSimpArgs false
/-- A total preorder, by what is less. -/
structure LtO {α : Type} (lt : α → α → Prop) : Prop where
  asym : ∀ {x y}, lt x y → ¬ lt y x
  ntr : ∀ {x y z}, ¬ lt y x → ¬ lt z y → ¬ lt z x
section
variable {α : Type} {lt : α → α → Prop} {L : List α} {n i j k : Nat} {x y : α}
def Edge (lt : α → α → Prop) (L : List α) (k : Nat) : Prop := ∀ x p, L[k]? = some x → L[(k - 1) / 2]? = some p → ¬ lt x p
def HeapN (lt : α → α → Prop) (L : List α) (n : Nat) : Prop := ∀ k, 0 < k → k < n → Edge lt L k
def swp (L : List α) (i j : Nat) (x y : α) : List α := (L.set i y).set j x
theorem swp_len : (swp L i j x y).length = L.length := by simp [swp]
theorem swp_get (hi : i < L.length) (hj : j < L.length) : (swp L i j x y)[k]? = if k = j then some x else if k = i then some y else L[k]? := by
  unfold swp
  by_cases h1 : k = j
  · subst h1
    simp [hj]
  · rw [if_neg h1, List.getElem?_set_ne (fun h => h1 h.symm)]
    by_cases h2 : k = i
    · subst h2
      simp [hi]
    · rw [if_neg h2, List.getElem?_set_ne (fun h => h2 h.symm)]
theorem swp_perm (hx : L[i]? = some x) (hy : L[j]? = some y) : (swp L i j x y).Perm L := by
  obtain ⟨hi, ex⟩ := List.getElem?_eq_some_iff.1 hx
  obtain ⟨hj, ey⟩ := List.getElem?_eq_some_iff.1 hy
  have h := Array.swap_perm (xs := L.toArray) (i := i) (j := j) (h₁ := by simpa using hi) (h₂ := by simpa using hj)
  have h2 := h.toList
  have e : (L.toArray.swap i j (by simpa using hi) (by simpa using hj)).toList = swp L i j x y := by
    unfold swp
    simp [ex, ey]
  rw [e] at h2
  simpa using h2
theorem swp_far (hi : i < L.length) (hj : j < L.length) (hin : i < n) (hjn : j < n) (hk : n ≤ k) : (swp L i j x y)[k]? = L[k]? := by
  rw [swp_get hi hj, if_neg (by omega), if_neg (by omega)]
/-- A heap but for the way up from a place. -/
structure UInv (lt : α → α → Prop) (L : List α) (n j : Nat) : Prop where
  e : ∀ k, 0 < k → k < n → k ≠ j → Edge lt L k
  g : 0 < j → ∀ k, 0 < k → k < n → (k - 1) / 2 = j → ∀ x p, L[k]? = some x → L[(j - 1) / 2]? = some p → ¬ lt x p
theorem UInv.zero (h : UInv lt L n 0) : HeapN lt L n := fun k h0 hk => h.e k h0 hk (by omega)
theorem UInv.stop (h : UInv lt L n j) (hx : L[j]? = some x) (hp : L[(j - 1) / 2]? = some y) (hl : ¬ lt x y) : HeapN lt L n := fun k h0 hk => by
  by_cases e : k = j
  · subst e
    intro a b ha hb
    rw [hx] at ha
    rw [hp] at hb
    obtain rfl := Option.some.inj ha
    obtain rfl := Option.some.inj hb
    exact hl
  · exact h.e k h0 hk e
theorem UInv.step (o : LtO lt) (h : UInv lt L n j) (hj0 : 0 < j) (hjn : j < n) (hn : n ≤ L.length) (hx : L[j]? = some x) (hp : L[(j - 1) / 2]? = some y) (hl : lt x y) : UInv lt (swp L ((j - 1) / 2) j y x) n ((j - 1) / 2) := by
  obtain ⟨i, hi⟩ : ∃ i, i = (j - 1) / 2 := ⟨_, rfl⟩
  rw [← hi] at hp ⊢
  have hjL : j < L.length := by omega
  have hiL : i < L.length := by omega
  have hij : i < j := by omega
  have G : ∀ k, (swp L i j y x)[k]? = if k = j then some y else if k = i then some x else L[k]? := fun k => swp_get hiL hjL
  refine ⟨fun k h0 hk hne a b ha hb => ?_, fun hi0 k h0 hk hki a b ha hb => ?_⟩
  · rw [G] at ha hb
    by_cases e1 : k = j
    · subst e1
      rw [if_pos rfl] at ha
      rw [← hi, if_neg (by omega), if_pos rfl] at hb
      obtain rfl := Option.some.inj ha
      obtain rfl := Option.some.inj hb
      exact o.asym hl
    · rw [if_neg e1, if_neg hne] at ha
      by_cases e2 : (k - 1) / 2 = i
      · rw [if_neg (by omega), if_pos e2] at hb
        obtain rfl := Option.some.inj hb
        have h1 := h.e k h0 hk e1 a y ha (by rw [e2]; exact hp)
        exact o.ntr (o.asym hl) h1
      · by_cases e3 : (k - 1) / 2 = j
        · rw [if_pos e3] at hb
          obtain rfl := Option.some.inj hb
          exact h.g hj0 k h0 hk e3 a y ha (by rw [← hi]; exact hp)
        · rw [if_neg e3, if_neg e2] at hb
          exact h.e k h0 hk e1 a b ha hb
  · rw [G] at ha hb
    rw [if_neg (by omega), if_neg (by omega)] at hb
    have h1 : ¬ lt y b := h.e i hi0 (by omega) (by omega) y b hp hb
    by_cases e1 : k = j
    · subst e1
      rw [if_pos rfl] at ha
      obtain rfl := Option.some.inj ha
      exact h1
    · rw [if_neg e1, if_neg (by omega)] at ha
      exact o.ntr h1 (h.e k h0 hk e1 a y ha (by rw [hki]; exact hp))
/-- A heap but for the way down from a place (and up, if nothing has moved yet). -/
structure DInv (lt : α → α → Prop) (L : List α) (n i : Nat) (mv : Prop) : Prop where
  e : ∀ k, 0 < k → k < n → (k - 1) / 2 ≠ i → (k ≠ i ∨ mv) → Edge lt L k
  g : 0 < i → ∀ k, 0 < k → k < n → (k - 1) / 2 = i → ∀ x p, L[k]? = some x → L[(i - 1) / 2]? = some p → ¬ lt x p
/-- The least child. -/
structure MinC (lt : α → α → Prop) (L : List α) (n i j : Nat) (y : α) : Prop where
  par : (j - 1) / 2 = i
  pos : 0 < j
  jn : j < n
  at_ : L[j]? = some y
  least : ∀ k, 0 < k → k < n → (k - 1) / 2 = i → ∀ z, L[k]? = some z → ¬ lt z y
theorem DInv.step {mv : Prop} (o : LtO lt) (h : DInv lt L n i mv) (hn : n ≤ L.length) (hx : L[i]? = some x) (hm : MinC lt L n i j y) (hl : lt y x) : DInv lt (swp L i j x y) n j True := by
  obtain ⟨hpar, hpos, hjn, hy, hle⟩ := hm
  have hjL : j < L.length := by omega
  have hiL : i < L.length := by omega
  have hij : i < j := by omega
  have G : ∀ k, (swp L i j x y)[k]? = if k = j then some x else if k = i then some y else L[k]? := fun k => swp_get hiL hjL
  refine ⟨fun k h0 hk hpk _ a b ha hb => ?_, fun _ k h0 hk hkj a b ha hb => ?_⟩
  · rw [G] at ha hb
    rw [if_neg hpk] at hb
    by_cases e1 : k = j
    · subst e1
      rw [if_pos rfl] at ha
      rw [if_pos hpar] at hb
      obtain rfl := Option.some.inj ha
      obtain rfl := Option.some.inj hb
      exact o.asym hl
    · rw [if_neg e1] at ha
      by_cases e2 : k = i
      · subst e2
        rw [if_pos rfl] at ha
        rw [if_neg (by omega)] at hb
        obtain rfl := Option.some.inj ha
        exact h.g h0 j hpos hjn hpar y b hy hb
      · rw [if_neg e2] at ha
        by_cases e3 : (k - 1) / 2 = i
        · rw [if_pos e3] at hb
          obtain rfl := Option.some.inj hb
          exact hle k h0 hk e3 a ha
        · rw [if_neg e3] at hb
          exact h.e k h0 hk e3 (.inl e2) a b ha hb
  · rw [G] at ha hb
    rw [if_neg (by omega), if_neg (by omega)] at ha
    rw [hpar, if_neg (by omega), if_pos rfl] at hb
    obtain rfl := Option.some.inj hb
    exact h.e k h0 hk (by omega) (.inl (by omega)) a y ha (by rw [hkj]; exact hy)
theorem DInv.stop {mv : Prop} (h : DInv lt L n i mv) (hx : L[i]? = some x) (hc : ∀ k, 0 < k → k < n → (k - 1) / 2 = i → ∀ z, L[k]? = some z → ¬ lt z x) : ∀ k, 0 < k → k < n → (k ≠ i ∨ mv) → Edge lt L k := fun k h0 hk hm => by
  by_cases e : (k - 1) / 2 = i
  · intro a b ha hb
    rw [e, hx] at hb
    obtain rfl := Option.some.inj hb
    exact hc k h0 hk e a ha
  · exact h.e k h0 hk e hm
theorem MinC.no (o : LtO lt) (hm : MinC lt L n i j y) (hl : ¬ lt y x) : ∀ k, 0 < k → k < n → (k - 1) / 2 = i → ∀ z, L[k]? = some z → ¬ lt z x := fun k h0 hk e z hz => o.ntr hl (hm.least k h0 hk e z hz)
theorem MinC.left (hn : n ≤ L.length) (hj : 2 * i + 1 < n) (hy : L[2 * i + 1]? = some y) (h2 : ∀ z, 2 * i + 2 < n → L[2 * i + 2]? = some z → ¬ lt z y) (hir : ¬ lt y y) : MinC lt L n i (2 * i + 1) y :=
  ⟨by omega, by omega, hj, hy, fun k h0 hk e z hz => by
    rcases (by omega : k = 2 * i + 1 ∨ k = 2 * i + 2) with rfl | rfl
    · rw [hy] at hz; obtain rfl := Option.some.inj hz; exact hir
    · exact h2 z hk hz⟩
theorem MinC.right (hn : n ≤ L.length) (hj : 2 * i + 2 < n) {z : α} (hy : L[2 * i + 2]? = some y) (hz : L[2 * i + 1]? = some z) (h1 : ¬ lt z y) (hir : ¬ lt y y) : MinC lt L n i (2 * i + 2) y :=
  ⟨by omega, by omega, hj, hy, fun k h0 hk e u hu => by
    rcases (by omega : k = 2 * i + 1 ∨ k = 2 * i + 2) with rfl | rfl
    · rw [hz] at hu; obtain rfl := Option.some.inj hu; exact h1
    · rw [hy] at hu; obtain rfl := Option.some.inj hu; exact hir⟩
theorem LtO.irr (o : LtO lt) (x : α) : ¬ lt x x := fun h => o.asym h h
/-- The root is least. -/
theorem HeapN.root (o : LtO lt) (h : HeapN lt L n) (hn : n ≤ L.length) (h0 : L[0]? = some x) : ∀ k, k < n → ∀ z, L[k]? = some z → ¬ lt z x := fun k => by
  induction k using Nat.strongRecOn with
  | _ k ih =>
    intro hk z hz
    by_cases e : k = 0
    · subst e
      rw [h0] at hz
      obtain rfl := Option.some.inj hz
      exact o.irr _
    · obtain ⟨p, hp⟩ : ∃ p, L[(k - 1) / 2]? = some p := ⟨L[(k - 1) / 2], List.getElem?_eq_getElem (by omega)⟩
      exact o.ntr (ih ((k - 1) / 2) (by omega) (by omega) p hp) (h k (by omega) hk z p hz hp)
theorem HeapN.mono {m : Nat} (h : HeapN lt L n) (hm : m ≤ n) : HeapN lt L m := fun k h0 hk => h k h0 (by omega)
theorem HeapN.of_eq {L' : List α} (h : HeapN lt L n) (he : ∀ k, k < n → L'[k]? = L[k]?) : HeapN lt L' n := fun k h0 hk x p hx hp => h k h0 hk x p (by rw [← he k hk]; exact hx) (by rw [← he _ (by omega)]; exact hp)
/-- After a change at one place. -/
theorem HeapN.at_one {L' : List α} (o : LtO lt) (h : HeapN lt L n) (he : ∀ k, k < n → k ≠ i → L'[k]? = L[k]?) (hin : i < n) (hn : n ≤ L.length) : DInv lt L' n i False ∧ (∀ k, 0 < k → k < n → (k - 1) / 2 ≠ i → k ≠ i → Edge lt L' k) := by
  have h1 : ∀ k, 0 < k → k < n → (k - 1) / 2 ≠ i → k ≠ i → Edge lt L' k := fun k h0 hk hp hki a b ha hb => h k h0 hk a b (by rw [← he k hk hki]; exact ha) (by rw [← he _ (by omega) hp]; exact hb)
  refine ⟨⟨fun k h0 hk hp hm => h1 k h0 hk hp (hm.resolve_right id), fun hi0 k h0 hk hki a b ha hb => ?_⟩, h1⟩
  rw [he k hk (by omega)] at ha
  rw [he _ (by omega) (by omega)] at hb
  obtain ⟨x, hx⟩ : ∃ x, L[i]? = some x := ⟨L[i], List.getElem?_eq_getElem (by omega)⟩
  exact o.ntr (h i hi0 hin x b hx hb) (h k h0 hk a x ha (by rw [hki]; exact hx))
end
end Go.Proofs.YtaghmffgoomebaaGreat.Hp
