/- Law 36: a block's sector. store's loader: a block that was seen, a leaf, a sector that is no node. -/
import Derived.Test.YtaghmffgoomebaaGreatSt1
import Derived.Test.YtaghmffgoomebaaGreatNd4
namespace Go.Proofs.YtaghmffgoomebaaGreat.St
open Go.RowKit Mem Gx Bytes Dk Al Rf Hp Nd Ch
set_option linter.unusedVariables false
set_option linter.unusedSimpArgs false
set_option maxRecDepth 100000
set_option maxHeartbeats 4000000
theorem dwrite_size (g : Nat) (sv lv : Value) (S : List SecD) (W : List WrD) (a : Nat) (bA : Option Addr) (bn bc : Nat) (w : World) (ha : a < S.length) (h9 : S.length ≤ 4096) (hb : bn ≠ 128) (h : Rd1 w (dkF g ⟨sv, lv, S, W⟩)) :
    Calls Tryz.prog 26 [.pointer (some ⟨g, 0, none⟩), .int .i64 (a : Nat), .slice bA bn bc].toArray w fun e w' => e = .returned (.int .i64 12) ∧ Below w.heap.size w w' := by
  obtain ⟨uA, uc, rfl, _, _, _, _⟩ := own_rdv (α := SecD) (Rd1.unpack h (φ := own 0 23 1 sv SE S) (.tail _ (.head _)))
  refine g_enter0 T [] [] [blk g [.slice uA S.length uc, lv, .bool false, .int .i64 0] 114] Tryz.func26 rfl Tryz.ntmps26 rfl (Rds.cons (Rd1.unpack h (.head _)) .nil).kn ?_
  refine gk_rowR (g := g) mE ?_
  (repeat' (first | (refine gG ?_; try intro _) | ((first | refine g_split rfl rfl tE (fun _ => ?_) (fun _ => ?_) | refine gk_cond rfl rfl tE (fun _ => ?_) (fun _ => ?_)) <;> (try first | (exfalso; omega; done) | (rename_i hx; exact absurd rfl hx) | (rename_i hx; cases hx; done)))))
  all_goals (refine gk_ret hT rfl rfl (.tmp rfl .nil) (fun w' hk => ?_); exact ⟨rfl, hk.toBelow⟩)
theorem pwrite_err (g : Nat) (sv lv : Value) (S : List SecD) (W : List WrD) (a : Nat) (bA : Option Addr) (bn bc : Nat) (er : Int) (w : World) (ha : 1 ≤ a) (ha9 : a ≤ 4294967295)
    (hd : ∀ w, Rd1 w (dkF g ⟨sv, lv, S, W⟩) → Calls Tryz.prog 26 [.pointer (some ⟨g, 0, none⟩), .int .i64 ((a + 4 + 1 : Nat) : Int), .slice bA bn bc].toArray w fun e w' => e = .returned (.int .i64 er) ∧ Below w.heap.size w w') (h : Rd1 w (dkF g ⟨sv, lv, S, W⟩)) :
    Calls Tryz.prog 9 [.agg #[.pointer (some ⟨g, 0, none⟩), .int .i64 ((4 : Nat) : Int)], .int .u32 (a : Nat), .slice bA bn bc].toArray w fun e w' => e = .returned (.int .i64 er) ∧ Below w.heap.size w w' := by
  refine g_enter0 T [] [] [dkF g ⟨sv, lv, S, W⟩] Tryz.func9 rfl Tryz.ntmps9 rfl (Rds.cons h .nil).kn ?_
  (repeat' (first | (refine gG ?_; try intro _) | ((first | refine g_split rfl rfl tE (fun _ => ?_) (fun _ => ?_) | refine gk_cond rfl rfl tE (fun _ => ?_) (fun _ => ?_)) <;> (try first | (exfalso; omega; done) | (rename_i hx; exact absurd rfl hx) | (rename_i hx; cases hx; done)))))
  rename_i g2 _
  refine gk_any [0, 1] (Cut _ (fun _ : Unit => [(6, .int .i64 er)]) (fun _ => []) (fun _ => [])) rfl rfl (by kernel_rfl) ?_ (cut_k fun _ => ?_)
  · skip
    refine gY hT 0 ?_
    refine gb_take 1 rfl (by decide +kernel) rfl rfl (by first | exact ys_blk hT rfl rfl mE rfl rfl | exact ys_row hT rfl rfl mE rfl rfl | exact ys_row0 hT rfl rfl mE rfl rfl) sF ?_
    refine gY hT 2 ?_
    refine gY hT 3 ?_
    refine gb_take 4 rfl (by decide +kernel) rfl rfl (by first | exact ys_blk hT rfl rfl mE rfl rfl | exact ys_row hT rfl rfl mE rfl rfl | exact ys_row0 hT rfl rfl mE rfl rfl) sF ?_
    refine gY hT 6 ?_
    refine gb_only 5 (by decide +kernel) rfl rfl ?_
    refine mv_call_bel (fun w hk => rblock_any a 4 ha ha9 (by decide) w) rfl rfl rfl rfl rfl (by kernel_rfl) ?_
    refine ⟨sF, ?_⟩
    refine gb_only 7 (by decide +kernel) rfl rfl ?_
    refine mv_call_bel (fun w hk => hd w (hk.rR (φ := dkF g ⟨sv, lv, S, W⟩) mE)) rfl rfl rfl rfl rfl (by kernel_rfl) ?_
    refine ⟨sF, ?_⟩
    refine gY hT 8 ?_
    refine gb_nil (by decide +kernel) ?_
    exact ⟨(), fS, sA, sS⟩
  · (repeat (refine gG ?_; try intro _))
    refine gk_ret hT rfl rfl (.tmp rfl .nil) (fun w' hk => ?_)
    exact ⟨rfl, hk.toBelow⟩
theorem pread_err (g : Nat) (sv lv : Value) (S : List SecD) (W : List WrD) (a : Nat) (w : World) (ha : 1 ≤ a) (ha9 : a ≤ 4294967295) (hf : S.length ≤ a + 4 + 1) (h : Rd1 w (dkF g ⟨sv, lv, S, W⟩)) :
    Calls Tryz.prog 50 [.agg #[.pointer (some ⟨g, 0, none⟩), .int .i64 ((4 : Nat) : Int)], .int .u32 (a : Nat)].toArray w fun e w' => e = .returned (.tuple #[.slice none 0 0, .int .i64 11]) ∧ Below w.heap.size w w' := by
  refine g_enter0 T [] [] [dkF g ⟨sv, lv, S, W⟩] Tryz.func50 rfl Tryz.ntmps50 rfl (Rds.cons h .nil).kn ?_
  (repeat' (first | (refine gG ?_; try intro _) | ((first | refine g_split rfl rfl tE (fun _ => ?_) (fun _ => ?_) | refine gk_cond rfl rfl tE (fun _ => ?_) (fun _ => ?_)) <;> (try first | (exfalso; omega; done) | (rename_i hx; exact absurd rfl hx) | (rename_i hx; cases hx; done)))))
  rename_i g2 _
  refine gk_any [0, 1] (Cut _ (fun _ : Unit => [(4, .slice none 0 0), (5, .int .i64 11)]) (fun _ => []) (fun _ => [])) rfl rfl (by kernel_rfl) ?_ (cut_k fun _ => ?_)
  · skip
    refine gY hT 0 ?_
    refine gb_take 1 rfl (by decide +kernel) rfl rfl (by first | exact ys_blk hT rfl rfl mE rfl rfl | exact ys_row hT rfl rfl mE rfl rfl | exact ys_row0 hT rfl rfl mE rfl rfl) sF ?_
    refine gY hT 2 ?_
    refine gY hT 3 ?_
    refine gb_take 4 rfl (by decide +kernel) rfl rfl (by first | exact ys_blk hT rfl rfl mE rfl rfl | exact ys_row hT rfl rfl mE rfl rfl | exact ys_row0 hT rfl rfl mE rfl rfl) sF ?_
    refine gb_only 5 (by decide +kernel) rfl rfl ?_
    refine mv_call_bel (fun w hk => rblock_any a 4 ha ha9 (by decide) w) rfl rfl rfl rfl rfl (by kernel_rfl) ?_
    refine ⟨sF, ?_⟩
    refine gb_only 6 (by decide +kernel) rfl rfl ?_
    refine mv_call_bel (fun w hk => dread_bad g sv lv S W ((a + 4 + 1 : Nat) : Int) w (.inr (by omega)) (hk.rR (φ := dkF g ⟨sv, lv, S, W⟩) mE)) rfl rfl rfl rfl rfl (by kernel_rfl) ?_
    refine ⟨sF, ?_⟩
    refine gY hT 7 ?_
    refine gY hT 8 ?_
    refine gY hT 9 ?_
    refine gY hT 10 ?_
    refine gb_nil (by decide +kernel) ?_
    exact ⟨(), fS, sA, sS⟩
  · (repeat (refine gG ?_; try intro _))
    refine gk_ret hT rfl rfl (.tmp rfl (.tmp rfl .nil)) (fun w' hk => ?_)
    exact ⟨rfl, hk.toBelow⟩
end Go.Proofs.YtaghmffgoomebaaGreat.St
namespace Go.Proofs.YtaghmffgoomebaaGreat.St
open Go.RowKit Mem Gx Bytes Dk Al Rf Hp Nd Ch
set_option linter.unusedVariables false
set_option linter.unusedSimpArgs false
set_option maxRecDepth 100000
set_option maxHeartbeats 4000000
/-- A loader. -/
structure LdS where
  r : Nat
  M : List (Int × Value)
  U : List Int
  A : Option Addr
  c : Nat
  l : List Int
  n : Int
abbrev ldL (lb g : Nat) (s : LdS) : List Fact := [blk lb [.pointer (some ⟨g, 0, none⟩), .int .i64 ((4 : Nat) : Int), .map (some s.r), .slice s.A s.l.length s.c, .int .i64 s.n] 81, mpk s.r (Value.int .u32) s.M, own 0 26 1 (.slice s.A s.l.length s.c) (IE .u32) s.l]
theorem lload_seen (lb g b : Nat) (deep : Int) (s : LdS) (w : World) (hu : MapIs s.M (uV s.U)) (hb : (b : Int) ∈ s.U) (h : Rd1 w (packF (ldL lb g s))) :
    Calls Tryz.prog 30 [.pointer (some ⟨lb, 0, none⟩), .int .u32 (b : Nat), .int .i64 deep].toArray w fun e w' => e = .returned (.tuple #[.pointer none, .int .i64 21]) ∧ Below w.heap.size w w' := by
  obtain ⟨r, M, U, A, c, l, n⟩ := s
  dsimp only at hu hb
  refine g_enter0 T [] [] [blk lb [.pointer (some ⟨g, 0, none⟩), .int .i64 ((4 : Nat) : Int), .map (some r), .slice A l.length c, .int .i64 n] 81, mpk r (Value.int .u32) M] Tryz.func30 rfl Tryz.ntmps30 rfl (Rds.cons (h.unpack (.head _)) (.cons (h.unpack (.tail _ (.head _))) .nil)).kn ?_
  refine gk_rowR (g := lb) mE ?_
  by_cases h0 : deep = 0
  · (repeat' (first | (refine gG ?_; try intro _) | ((first | refine g_split rfl rfl tE (fun _ => ?_) (fun _ => ?_) | refine gk_cond rfl rfl tE (fun _ => ?_) (fun _ => ?_)) <;> (try first | (exfalso; omega; done) | (rename_i hx; exact absurd rfl hx) | (rename_i hx; cases hx; done)))))
    all_goals (refine gk_ret hT rfl rfl (.tmp rfl (.tmp rfl .nil)) (fun w' hk => ?_); exact ⟨rfl, hk.toBelow⟩)
  (repeat' (first | (refine gG ?_; try intro _) | ((first | refine g_split rfl rfl tE (fun _ => ?_) (fun _ => ?_) | refine gk_cond rfl rfl tE (fun _ => ?_) (fun _ => ?_)) <;> (try first | (exfalso; omega; done) | (rename_i hx; exact absurd rfl hx) | (rename_i hx; cases hx; done)))))
  refine g_yd rfl rfl ((ys_lookupG (S := [mpk r (Value.int .u32) M]) (b : Int) rfl rfl rfl rfl Tryz.underlying79 kok_u zero_I (.head _)).ydS sF) ?_
  refine g_say 26 (.int .i64 (if (b : Int) ∈ U then 1 else 0)) rfl (lk_u hu b) ?_
  rw [if_pos hb]
  (repeat' (first | (refine gG ?_; try intro _) | ((first | refine g_split rfl rfl tE (fun _ => ?_) (fun _ => ?_) | refine gk_cond rfl rfl tE (fun _ => ?_) (fun _ => ?_)) <;> (try first | (exfalso; omega; done) | (rename_i hx; exact absurd rfl hx) | (rename_i hx; cases hx; done)))))
  all_goals (refine gk_ret hT rfl rfl (.tmp rfl (.tmp rfl .nil)) (fun w' hk => ?_); exact ⟨rfl, hk.toBelow⟩)
/-- A leaf at a block. -/
structure IsLeafA (b : Int) (L : List EntD) (d : NodeD) : Prop where
  ok : d.Ok
  leaf : d.leaf = true
  Ks : d.Ks = L.map (·.k)
  Vs : d.Vs = L.map (·.a)
  Cs : d.Cs = []
  a : d.a = b
noncomputable def entsOf (X : List Int) : List EntD := decN (Page.getS X).2.1 (nB (Page.getS X).2.1)
structure LdI (b : Nat) (s : LdS) (L : List EntD) (q : LdS × NodeD) : Prop where
  m : MapIs q.1.M (uV (s.U ++ [(b : Int)]))
  U : q.1.U = s.U ++ [(b : Int)]
  l : q.1.l = s.l ++ [(b : Int)]
  n : q.1.n = s.n + (L.length : Int)
  d : IsLeafA b L q.2
theorem uv_snoc {M : List (Int × Value)} {U : List Int} {b : Int} (hu : MapIs M (uV U)) : MapIs (msG b (.int .i64 1) M) (uV (U ++ [b])) := hu.set fun k => by
  unfold uV
  by_cases e : k = b
  · subst e; rw [if_pos rfl, if_pos (by simp)]
  · rw [if_neg e]
    by_cases h : k ∈ U
    · rw [if_pos h, if_pos (List.mem_append_left _ h)]
    · rw [if_neg h, if_neg (by simp [h, e])]
theorem lload_leaf (lb g b : Nat) (deep : Int) (s : LdS) (sv lv : Value) (S : List SecD) (W : List WrD) (w : World) (hu : MapIs s.M (uV s.U)) (hb : ¬ (b : Int) ∈ s.U) (hdp : deep ≠ 0) (hl9 : s.l.length ≤ 1000) (hn9 : 0 ≤ s.n ∧ s.n ≤ 100000) (hb1 : 1 ≤ b) (hbS : b + 4 + 1 < S.length) (hD : DkOk S W) (hW : W.length ≤ 100000)
    (hX : SecOk (dread (S.map SecD.L) (W.map WrD.c) (b + 4 + 1))) (hc : ncode (dread (S.map SecD.L) (W.map WrD.c) (b + 4 + 1)) = 0) (hlf : (Page.getS (dread (S.map SecD.L) (W.map WrD.c) (b + 4 + 1))).1 = 3) (hdk : Rd1 w (dkF g ⟨sv, lv, S, W⟩)) (hdis : ∀ x, (packF (ldL lb g s)).S x → ¬ (dkF g ⟨sv, lv, S, W⟩).S x) (h : Rd1 w (packF (ldL lb g s))) :
    Calls Tryz.prog 30 [.pointer (some ⟨lb, 0, none⟩), .int .u32 (b : Nat), .int .i64 deep].toArray w (RetM (packF (ldL lb g s)) (LdI b s (entsOf (dread (S.map SecD.L) (W.map WrD.c) (b + 4 + 1)))) (fun q => .tuple #[q.2.ptr, .int .i64 0]) (fun q => packF (ldL lb g q.1 ++ q.2.fs)) w) := by
  have hS9 := hD.n
  obtain ⟨r, M, U, A, c, l, n⟩ := s
  dsimp only at hu hb hl9 hn9
  have hrd := fun w h => pread_any g 4 sv lv S W b w hD hW hb1 (by omega) (by decide) hbS h
  obtain ⟨X, hXe⟩ : ∃ X, X = (dread (S.map SecD.L) (W.map WrD.c) (b + 4 + 1)) := ⟨_, rfl⟩
  rw [← hXe] at hX hc hlf hrd ⊢
  have hE6 : (entsOf X).length ≤ 6 := by unfold entsOf; rw [decN_len]; unfold nB; omega
  refine g_enter0 T (finE (packF (ldL lb g ⟨r, M, U, A, c, l, n⟩)) w) [blk lb [.pointer (some ⟨g, 0, none⟩), .int .i64 ((4 : Nat) : Int), .map (some r), .slice A l.length c, .int .i64 n] 81, mpk r (Value.int .u32) M, own 0 26 1 (.slice A l.length c) (IE .u32) l] [dkF g ⟨sv, lv, S, W⟩] Tryz.func30 rfl Tryz.ntmps30 rfl (Kn.startP h (fun b hb => (finE_mem h.2 b).2 hb) (fun ψ hψ => by obtain rfl := List.mem_singleton.1 hψ; exact ⟨hdk, hdis⟩)) ?_
  (repeat' (first | (refine gG ?_; try intro _) | ((first | refine g_split rfl rfl tE (fun _ => ?_) (fun _ => ?_) | refine gk_cond rfl rfl tE (fun _ => ?_) (fun _ => ?_)) <;> (try first | (exfalso; omega; done) | (rename_i hx; exact absurd rfl hx) | (rename_i hx; cases hx; done)))))
  refine g_yd rfl rfl ((ys_lookupG (S := [mpk r (Value.int .u32) M]) (b : Int) rfl rfl rfl rfl Tryz.underlying79 kok_u zero_I (.head _)).ydS sF) ?_
  refine g_say 26 (.int .i64 (if (b : Int) ∈ U then 1 else 0)) rfl (lk_u hu b) ?_
  rw [if_neg hb]
  (repeat' (first | (refine gG ?_; try intro _) | ((first | refine g_split rfl rfl tE (fun _ => ?_) (fun _ => ?_) | refine gk_cond rfl rfl tE (fun _ => ?_) (fun _ => ?_)) <;> (try first | (exfalso; omega; done) | (rename_i hx; exact absurd rfl hx) | (rename_i hx; cases hx; done)))))
  refine g_mv rfl (mv_mapUpdateG rfl (b : Int) rfl rfl rfl rfl rfl Tryz.underlying79 kok_u (by first | ((repeat (first | with_reducible exact Upd.here _ | with_reducible apply Upd.there)); done) | ((repeat (first | exact Upd.here _ | apply Upd.there)); done) | fail) ?_)
  (repeat (refine gG ?_; try intro _))
  refine g_mv rfl ?_; refine mv_call_rt (fun w hk => hrd w (hk.rR (φ := dkF g ⟨sv, lv, S, W⟩) mE)) rfl rfl rfl rfl rfl (by kernel_rfl) (fun _ => rfl) (fun u hu2 => ?_)
  (repeat' (first | (refine gG ?_; try intro _) | ((first | refine g_split rfl rfl tE (fun _ => ?_) (fun _ => ?_) | refine gk_cond rfl rfl tE (fun _ => ?_) (fun _ => ?_)) <;> (try first | (exfalso; omega; done) | (rename_i hx; exact absurd rfl hx) | (rename_i hx; cases hx; done)))))
  refine g_mv rfl ?_; refine mv_call_rt (fun w hk => nget_any u.A u.n u.c X w hu2 (hk.pO (sl u.A 1 (IE .u8) X) mE) hX.2) rfl rfl rfl rfl rfl (by kernel_rfl) (fun _ => rfl) (fun rr hr => ?_)
  obtain ⟨⟨⟨rA, rn, rc⟩, RM⟩, rl, re⟩ := rr
  obtain ⟨r1, r2, r3, r4⟩ := hr
  dsimp only [SlV.v] at r1 r2 r3 r4 ⊢
  rw [if_pos hc] at r3 r4
  rw [hc] at r2
  rw [tB_true hlf] at r4
  replace r3 : RM = entsOf X := r3
  subst r2 r4 r3
  have hrn : rn = (entsOf X).length := r1.n
  subst hrn
  (repeat' (first | (refine gG ?_; try intro _) | ((first | refine g_split rfl rfl tE (fun _ => ?_) (fun _ => ?_) | refine gk_cond rfl rfl tE (fun _ => ?_) (fun _ => ?_)) <;> (try first | (exfalso; omega; done) | (rename_i hx; exact absurd rfl hx) | (rename_i hx; cases hx; done)))))
  refine g_mv rfl ?_; refine mv_call_rt (fun w hk => leaf_any rA (entsOf X).length rc (entsOf X) w rfl (by omega) (hk.pO (sl rA 4 EE (entsOf X)) mE)) rfl rfl rfl rfl rfl (by kernel_rfl) (fun _ => rfl) (fun d hd => ?_)
  obtain ⟨dg, lf, ⟨KA, Km, Kc⟩, Ks, ⟨VA, Vn, Vc⟩, Vs, ⟨CA, Cn, Cc⟩, Cs, da⟩ := d
  obtain ⟨hd0, e1, e2, e3, e4, _⟩ := hd
  dsimp only at e1 e2 e3 e4
  subst e1 e2 e3 e4
  dsimp only [NodeD.fs, NodeD.ptr, SlV.v]
  (repeat' (first | (refine gG ?_; try intro _) | ((first | refine g_split rfl rfl tE (fun _ => ?_) (fun _ => ?_) | refine gk_cond rfl rfl tE (fun _ => ?_) (fun _ => ?_)) <;> (try first | (exfalso; omega; done) | (rename_i hx; exact absurd rfl hx) | (rename_i hx; cases hx; done)))))
  refine g_mv rfl (mv_append (L := l) rfl [(b : Int)] rfl rfl rfl rfl Ch.elt_U uD (src_blk mE rfl) rfl Ch.oneU (by simp only [maxLen, List.length_append, List.length_cons, List.length_nil]; omega) (by simp only [List.length_append, List.length_cons, List.length_nil]; omega) (Nat.zero_le _) ?_)
  intro v2
  refine g_ownv v2 mE (fun A3 c3 hv3 _ _ _ => ?_)
  subst hv3
  (repeat (refine gG ?_; try intro _))
  refine gk_ret hT rfl rfl (.tmp rfl (.tmp rfl .nil)) (fun w' hk => ?_)
  exact RetM.mkP (ll := fun q : LdS × NodeD => ldL lb g q.1 ++ q.2.fs) ((⟨r, msG (b : Int) (.int .i64 1) M, U ++ [(b : Int)], A3, c3, l ++ [(b : Int)], n + ((entsOf X).length : Int)⟩, ⟨dg, true, ⟨KA, Km, Kc⟩, (entsOf X).map (·.k), ⟨VA, Vn, Vc⟩, (entsOf X).map (·.a), ⟨CA, Cn, Cc⟩, [], (b : Int)⟩) : LdS × NodeD) ⟨uv_snoc hu, rfl, rfl, rfl, ⟨⟨hd0.K, hd0.V, hd0.C⟩, rfl, rfl, rfl, rfl, rfl⟩⟩ rfl hk (fun b hb => (finE_mem h.2 b).1 hb) sA
/-- It fails: what there was is not needed any more. -/
abbrev RetF (φ : Fact) (e : Int) (w : World) : Ending → World → Prop := RetM φ (fun _ : Unit => True) (fun _ => .tuple #[.pointer none, .int .i64 e]) (fun _ => packF []) w
theorem lload_far (lb g b : Nat) (deep : Int) (s : LdS) (sv lv : Value) (S : List SecD) (W : List WrD) (w : World) (hu : MapIs s.M (uV s.U)) (hb : ¬ (b : Int) ∈ s.U) (hdp : deep ≠ 0) (hb1 : 1 ≤ b) (hb9 : b ≤ 4294967295) (hbS : S.length ≤ b + 4 + 1)
    (hdk : Rd1 w (dkF g ⟨sv, lv, S, W⟩)) (hdis : ∀ x, (packF (ldL lb g s)).S x → ¬ (dkF g ⟨sv, lv, S, W⟩).S x) (h : Rd1 w (packF (ldL lb g s))) :
    Calls Tryz.prog 30 [.pointer (some ⟨lb, 0, none⟩), .int .u32 (b : Nat), .int .i64 deep].toArray w (RetF (packF (ldL lb g s)) 11 w) := by
  obtain ⟨r, M, U, A, c, l, n⟩ := s
  dsimp only at hu hb
  refine g_enter0 T (finE (packF (ldL lb g ⟨r, M, U, A, c, l, n⟩)) w) [blk lb [.pointer (some ⟨g, 0, none⟩), .int .i64 ((4 : Nat) : Int), .map (some r), .slice A l.length c, .int .i64 n] 81, mpk r (Value.int .u32) M, own 0 26 1 (.slice A l.length c) (IE .u32) l] [dkF g ⟨sv, lv, S, W⟩] Tryz.func30 rfl Tryz.ntmps30 rfl (Kn.startP h (fun b hb => (finE_mem h.2 b).2 hb) (fun ψ hψ => by obtain rfl := List.mem_singleton.1 hψ; exact ⟨hdk, hdis⟩)) ?_
  (repeat' (first | (refine gG ?_; try intro _) | ((first | refine g_split rfl rfl tE (fun _ => ?_) (fun _ => ?_) | refine gk_cond rfl rfl tE (fun _ => ?_) (fun _ => ?_)) <;> (try first | (exfalso; omega; done) | (rename_i hx; exact absurd rfl hx) | (rename_i hx; cases hx; done)))))
  refine g_yd rfl rfl ((ys_lookupG (S := [mpk r (Value.int .u32) M]) (b : Int) rfl rfl rfl rfl Tryz.underlying79 kok_u zero_I (.head _)).ydS sF) ?_
  refine g_say 26 (.int .i64 (if (b : Int) ∈ U then 1 else 0)) rfl (lk_u hu b) ?_
  rw [if_neg hb]
  (repeat' (first | (refine gG ?_; try intro _) | ((first | refine g_split rfl rfl tE (fun _ => ?_) (fun _ => ?_) | refine gk_cond rfl rfl tE (fun _ => ?_) (fun _ => ?_)) <;> (try first | (exfalso; omega; done) | (rename_i hx; exact absurd rfl hx) | (rename_i hx; cases hx; done)))))
  refine g_mv rfl (mv_mapUpdateG rfl (b : Int) rfl rfl rfl rfl rfl Tryz.underlying79 kok_u (by first | ((repeat (first | with_reducible exact Upd.here _ | with_reducible apply Upd.there)); done) | ((repeat (first | exact Upd.here _ | apply Upd.there)); done) | fail) ?_)
  (repeat' (first | (refine gG ?_; try intro _) | (refine g_mv rfl ?_; first | refine mv_call_bel (fun w hk => pread_err g sv lv S W b w hb1 hb9 hbS (hk.rR (φ := dkF g ⟨sv, lv, S, W⟩) mE)) rfl rfl rfl rfl rfl (by kernel_rfl) ?_) | ((first | refine g_split rfl rfl tE (fun _ => ?_) (fun _ => ?_) | refine gk_cond rfl rfl tE (fun _ => ?_) (fun _ => ?_)) <;> (try first | (exfalso; omega; done) | (rename_i hx; exact absurd rfl hx) | (rename_i hx; cases hx; done)))))
  refine gk_ret hT rfl rfl (.tmp rfl (.tmp rfl .nil)) (fun w' hk => ?_)
  exact RetM.mkP (ll := fun _ : Unit => []) () trivial rfl hk (fun b hb => (finE_mem h.2 b).1 hb) sA
theorem lload_bad (lb g b : Nat) (deep : Int) (s : LdS) (sv lv : Value) (S : List SecD) (W : List WrD) (w : World) (hu : MapIs s.M (uV s.U)) (hb : ¬ (b : Int) ∈ s.U) (hdp : deep ≠ 0) (hb1 : 1 ≤ b) (hbS : b + 4 + 1 < S.length) (hD : DkOk S W) (hW : W.length ≤ 100000)
    (hX : SecOk (dread (S.map SecD.L) (W.map WrD.c) (b + 4 + 1))) (hc : ncode (dread (S.map SecD.L) (W.map WrD.c) (b + 4 + 1)) ≠ 0) (hdk : Rd1 w (dkF g ⟨sv, lv, S, W⟩)) (hdis : ∀ x, (packF (ldL lb g s)).S x → ¬ (dkF g ⟨sv, lv, S, W⟩).S x) (h : Rd1 w (packF (ldL lb g s))) :
    Calls Tryz.prog 30 [.pointer (some ⟨lb, 0, none⟩), .int .u32 (b : Nat), .int .i64 deep].toArray w (RetF (packF (ldL lb g s)) (ncode (dread (S.map SecD.L) (W.map WrD.c) (b + 4 + 1))) w) := by
  have hS9 := hD.n
  obtain ⟨r, M, U, A, c, l, n⟩ := s
  dsimp only at hu hb
  have hrd := fun w h => pread_any g 4 sv lv S W b w hD hW hb1 (by omega) (by decide) hbS h
  obtain ⟨X, hXe⟩ : ∃ X, X = (dread (S.map SecD.L) (W.map WrD.c) (b + 4 + 1)) := ⟨_, rfl⟩
  rw [← hXe] at hX hc hrd ⊢
  refine g_enter0 T (finE (packF (ldL lb g ⟨r, M, U, A, c, l, n⟩)) w) [blk lb [.pointer (some ⟨g, 0, none⟩), .int .i64 ((4 : Nat) : Int), .map (some r), .slice A l.length c, .int .i64 n] 81, mpk r (Value.int .u32) M, own 0 26 1 (.slice A l.length c) (IE .u32) l] [dkF g ⟨sv, lv, S, W⟩] Tryz.func30 rfl Tryz.ntmps30 rfl (Kn.startP h (fun b hb => (finE_mem h.2 b).2 hb) (fun ψ hψ => by obtain rfl := List.mem_singleton.1 hψ; exact ⟨hdk, hdis⟩)) ?_
  (repeat' (first | (refine gG ?_; try intro _) | ((first | refine g_split rfl rfl tE (fun _ => ?_) (fun _ => ?_) | refine gk_cond rfl rfl tE (fun _ => ?_) (fun _ => ?_)) <;> (try first | (exfalso; omega; done) | (rename_i hx; exact absurd rfl hx) | (rename_i hx; cases hx; done)))))
  refine g_yd rfl rfl ((ys_lookupG (S := [mpk r (Value.int .u32) M]) (b : Int) rfl rfl rfl rfl Tryz.underlying79 kok_u zero_I (.head _)).ydS sF) ?_
  refine g_say 26 (.int .i64 (if (b : Int) ∈ U then 1 else 0)) rfl (lk_u hu b) ?_
  rw [if_neg hb]
  (repeat' (first | (refine gG ?_; try intro _) | ((first | refine g_split rfl rfl tE (fun _ => ?_) (fun _ => ?_) | refine gk_cond rfl rfl tE (fun _ => ?_) (fun _ => ?_)) <;> (try first | (exfalso; omega; done) | (rename_i hx; exact absurd rfl hx) | (rename_i hx; cases hx; done)))))
  refine g_mv rfl (mv_mapUpdateG rfl (b : Int) rfl rfl rfl rfl rfl Tryz.underlying79 kok_u (by first | ((repeat (first | with_reducible exact Upd.here _ | with_reducible apply Upd.there)); done) | ((repeat (first | exact Upd.here _ | apply Upd.there)); done) | fail) ?_)
  (repeat (refine gG ?_; try intro _))
  refine g_mv rfl ?_; refine mv_call_rt (fun w hk => hrd w (hk.rR (φ := dkF g ⟨sv, lv, S, W⟩) mE)) rfl rfl rfl rfl rfl (by kernel_rfl) (fun _ => rfl) (fun u hu2 => ?_)
  (repeat' (first | (refine gG ?_; try intro _) | ((first | refine g_split rfl rfl tE (fun _ => ?_) (fun _ => ?_) | refine gk_cond rfl rfl tE (fun _ => ?_) (fun _ => ?_)) <;> (try first | (exfalso; omega; done) | (rename_i hx; exact absurd rfl hx) | (rename_i hx; cases hx; done)))))
  refine g_mv rfl ?_; refine mv_call_rt (fun w hk => nget_any u.A u.n u.c X w hu2 (hk.pO (sl u.A 1 (IE .u8) X) mE) hX.2) rfl rfl rfl rfl rfl (by kernel_rfl) (fun _ => rfl) (fun rr hr => ?_)
  obtain ⟨⟨⟨rA, rn, rc⟩, RM⟩, rl, re⟩ := rr
  obtain ⟨r1, r2, r3, r4⟩ := hr
  dsimp only [SlV.v] at r1 r2 r3 r4 ⊢
  have hre : re ≠ 0 := by rw [r2]; exact hc
  (repeat' (first | (refine gG ?_; try intro _) | ((first | refine g_split rfl rfl tE (fun _ => ?_) (fun _ => ?_) | refine gk_cond rfl rfl tE (fun _ => ?_) (fun _ => ?_)) <;> (try first | (exfalso; omega; done) | (rename_i hx; exact absurd rfl hx) | (rename_i hx; cases hx; done)))))
  refine gk_ret hT rfl rfl (.tmp rfl (.tmp rfl .nil)) (fun w' hk => ?_)
  exact RetM.mkP (ll := fun _ : Unit => []) () trivial (by rw [← r2]; rfl) hk (fun b hb => (finE_mem h.2 b).1 hb) sA
theorem lload_kid (lb g b cb : Nat) (deep er : Int) (s : LdS) (e0 : EntD) (sv lv : Value) (S : List SecD) (W : List WrD) (w : World) (hu : MapIs s.M (uV s.U)) (hb : ¬ (b : Int) ∈ s.U) (hdp : deep ≠ 0) (hd9 : 0 ≤ deep ∧ deep ≤ 1000) (hb1 : 1 ≤ b) (hbS : b + 4 + 1 < S.length) (hD : DkOk S W) (hW : W.length ≤ 100000)
    (hX : SecOk (dread (S.map SecD.L) (W.map WrD.c) (b + 4 + 1))) (hc : ncode (dread (S.map SecD.L) (W.map WrD.c) (b + 4 + 1)) = 0) (hlf : (Page.getS (dread (S.map SecD.L) (W.map WrD.c) (b + 4 + 1))).1 ≠ 3) (he0 : (entsOf (dread (S.map SecD.L) (W.map WrD.c) (b + 4 + 1)))[0]? = some e0) (hea : e0.a = (cb : Int)) (her : er ≠ 0)
    (hkid : (((cb : Int) ∈ s.U ++ [(b : Int)]) ∧ er = 21) ∨ (∀ (s' : LdS) (w : World), s'.U = s.U ++ [(b : Int)] → MapIs s'.M (uV (s.U ++ [(b : Int)])) → Rd1 w (dkF g ⟨sv, lv, S, W⟩) → (∀ x, (packF (ldL lb g s')).S x → ¬ (dkF g ⟨sv, lv, S, W⟩).S x) → Rd1 w (packF (ldL lb g s')) → Calls Tryz.prog 30 [.pointer (some ⟨lb, 0, none⟩), .int .u32 (cb : Nat), .int .i64 (deep - 1)].toArray w (RetF (packF (ldL lb g s')) er w)))
    (hdk : Rd1 w (dkF g ⟨sv, lv, S, W⟩)) (hdis : ∀ x, (packF (ldL lb g s)).S x → ¬ (dkF g ⟨sv, lv, S, W⟩).S x) (h : Rd1 w (packF (ldL lb g s))) :
    Calls Tryz.prog 30 [.pointer (some ⟨lb, 0, none⟩), .int .u32 (b : Nat), .int .i64 deep].toArray w (RetF (packF (ldL lb g s)) er w) := by
  have hS9 := hD.n
  obtain ⟨r, M, U, A, c, l, n⟩ := s
  dsimp only at hu hb hkid
  have hrd := fun w h => pread_any g 4 sv lv S W b w hD hW hb1 (by omega) (by decide) hbS h
  obtain ⟨X, hXe⟩ : ∃ X, X = (dread (S.map SecD.L) (W.map WrD.c) (b + 4 + 1)) := ⟨_, rfl⟩
  rw [← hXe] at hX hc hlf hrd he0
  have hE6 : (entsOf X).length ≤ 6 := by unfold entsOf; rw [decN_len]; unfold nB; omega
  have hE0 : 0 < (entsOf X).length := (List.getElem?_eq_some_iff.1 he0).1
  refine g_enter0 T (finE (packF (ldL lb g ⟨r, M, U, A, c, l, n⟩)) w) [blk lb [.pointer (some ⟨g, 0, none⟩), .int .i64 ((4 : Nat) : Int), .map (some r), .slice A l.length c, .int .i64 n] 81, mpk r (Value.int .u32) M, own 0 26 1 (.slice A l.length c) (IE .u32) l] [dkF g ⟨sv, lv, S, W⟩] Tryz.func30 rfl Tryz.ntmps30 rfl (Kn.startP h (fun b hb => (finE_mem h.2 b).2 hb) (fun ψ hψ => by obtain rfl := List.mem_singleton.1 hψ; exact ⟨hdk, hdis⟩)) ?_
  (repeat' (first | (refine gG ?_; try intro _) | ((first | refine g_split rfl rfl tE (fun _ => ?_) (fun _ => ?_) | refine gk_cond rfl rfl tE (fun _ => ?_) (fun _ => ?_)) <;> (try first | (exfalso; omega; done) | (rename_i hx; exact absurd rfl hx) | (rename_i hx; cases hx; done)))))
  refine g_yd rfl rfl ((ys_lookupG (S := [mpk r (Value.int .u32) M]) (b : Int) rfl rfl rfl rfl Tryz.underlying79 kok_u zero_I (.head _)).ydS sF) ?_
  refine g_say 26 (.int .i64 (if (b : Int) ∈ U then 1 else 0)) rfl (lk_u hu b) ?_
  rw [if_neg hb]
  (repeat' (first | (refine gG ?_; try intro _) | ((first | refine g_split rfl rfl tE (fun _ => ?_) (fun _ => ?_) | refine gk_cond rfl rfl tE (fun _ => ?_) (fun _ => ?_)) <;> (try first | (exfalso; omega; done) | (rename_i hx; exact absurd rfl hx) | (rename_i hx; cases hx; done)))))
  refine g_mv rfl (mv_mapUpdateG rfl (b : Int) rfl rfl rfl rfl rfl Tryz.underlying79 kok_u (by first | ((repeat (first | with_reducible exact Upd.here _ | with_reducible apply Upd.there)); done) | ((repeat (first | exact Upd.here _ | apply Upd.there)); done) | fail) ?_)
  (repeat (refine gG ?_; try intro _))
  refine g_mv rfl ?_; refine mv_call_rt (fun w hk => hrd w (hk.rR (φ := dkF g ⟨sv, lv, S, W⟩) mE)) rfl rfl rfl rfl rfl (by kernel_rfl) (fun _ => rfl) (fun u hu2 => ?_)
  (repeat' (first | (refine gG ?_; try intro _) | ((first | refine g_split rfl rfl tE (fun _ => ?_) (fun _ => ?_) | refine gk_cond rfl rfl tE (fun _ => ?_) (fun _ => ?_)) <;> (try first | (exfalso; omega; done) | (rename_i hx; exact absurd rfl hx) | (rename_i hx; cases hx; done)))))
  refine g_mv rfl ?_; refine mv_call_rt (fun w hk => nget_any u.A u.n u.c X w hu2 (hk.pO (sl u.A 1 (IE .u8) X) mE) hX.2) rfl rfl rfl rfl rfl (by kernel_rfl) (fun _ => rfl) (fun rr hr => ?_)
  obtain ⟨⟨⟨rA, rn, rc⟩, RM⟩, rl, re⟩ := rr
  obtain ⟨r1, r2, r3, r4⟩ := hr
  dsimp only [SlV.v] at r1 r2 r3 r4 ⊢
  rw [if_pos hc] at r3 r4
  rw [hc] at r2
  rw [tB_false hlf] at r4
  replace r3 : RM = entsOf X := r3
  subst r2 r4 r3
  have hrn : rn = (entsOf X).length := r1.n
  subst hrn
  (repeat' (first | (refine gG ?_; try intro _) | ((first | refine g_split rfl rfl tE (fun _ => ?_) (fun _ => ?_) | refine gk_cond rfl rfl tE (fun _ => ?_) (fun _ => ?_)) <;> (try first | (exfalso; omega; done) | (rename_i hx; exact absurd rfl hx) | (rename_i hx; cases hx; done)))))
  refine g_mv rfl ?_; refine mv_call_rt (fun w hk => leaf_any rA (entsOf X).length rc (entsOf X) w rfl (by omega) (hk.pO (sl rA 4 EE (entsOf X)) mE)) rfl rfl rfl rfl rfl (by kernel_rfl) (fun _ => rfl) (fun d hd => ?_)
  obtain ⟨dg, lf, ⟨KA, Km, Kc⟩, Ks, ⟨VA, Vn, Vc⟩, Vs, ⟨CA, Cn, Cc⟩, Cs, da⟩ := d
  dsimp only [NodeD.fs, NodeD.ptr, SlV.v]
  refine g_share (φ := sl rA 4 EE (entsOf X)) (by repeat (first | with_reducible exact Sel.here | with_reducible apply Sel.there)) ?_
  (repeat' (first | (refine gG ?_; try intro _) | ((first | refine g_split rfl rfl tE (fun _ => ?_) (fun _ => ?_) | refine gk_cond rfl rfl tE (fun _ => ?_) (fun _ => ?_)) <;> (try first | (exfalso; omega; done) | (rename_i hx; exact absurd rfl hx) | (rename_i hx; cases hx; done)))))
  refine gk_loop_sel (fun (j : Nat) => (j = 0)) (fun (j : Nat) => [(0, .pointer (some ⟨lb, 0, none⟩)), (1, .int .u32 (b : Nat)), (2, .int .i64 deep), (13, .pointer (some ⟨dg, 0, none⟩)), (73, .slice rA (entsOf X).length rc), (74, .int .i64 ((entsOf X).length : Nat)), (75, .int .i64 (j : Nat))]) (fun (j : Nat) => [blk lb [.pointer (some ⟨g, 0, none⟩), .int .i64 ((4 : Nat) : Int), .map (some r), .slice A l.length c, .int .i64 n] 81, mpk r (Value.int .u32) (msG (b : Int) (.int .i64 1) M), own 0 26 1 (.slice A l.length c) (IE .u32) l]) (fun (j : Nat) => [sl rA 4 EE (entsOf X), dkF g ⟨sv, lv, S, W⟩]) (fun (j : Nat) => 0) 0 rfl rfl fS sA sS ?_
  rintro j hI
  replace hI : (j = 0) := hI
  change GK _ _ [(0, .pointer (some ⟨lb, 0, none⟩)), (1, .int .u32 (b : Nat)), (2, .int .i64 deep), (13, .pointer (some ⟨dg, 0, none⟩)), (73, .slice rA (entsOf X).length rc), (74, .int .i64 ((entsOf X).length : Nat)), (75, .int .i64 (j : Nat))] [blk lb [.pointer (some ⟨g, 0, none⟩), .int .i64 ((4 : Nat) : Int), .map (some r), .slice A l.length c, .int .i64 n] 81, mpk r (Value.int .u32) (msG (b : Int) (.int .i64 1) M), own 0 26 1 (.slice A l.length c) (IE .u32) l] [sl rA 4 EE (entsOf X), dkF g ⟨sv, lv, S, W⟩]
  subst hI
  refine gk_elem (A := rA) (enc := EE) (L := entsOf X) 0 mE hE0 (by decide) (fun eg eo y eA hy => ?_)
  subst eA
  rw [he0] at hy
  obtain rfl := Option.some.inj hy
  (repeat' (first | (refine gG ?_; try intro _) | ((first | refine g_split rfl rfl tE (fun _ => ?_) (fun _ => ?_) | refine gk_cond rfl rfl tE (fun _ => ?_) (fun _ => ?_)) <;> (try first | (exfalso; omega; done) | (rename_i hx; exact absurd rfl hx) | (rename_i hx; cases hx; done)))))
  refine g_say 82 (.int .u32 (cb : Nat)) rfl (by show Value.int .u32 e0.a = _; rw [hea]) ?_
  refine g_pack (ldL lb g (⟨r, msG (b : Int) (.int .i64 1) M, U ++ [(b : Int)], A, c, l, n⟩ : LdS)) [] sA ?_
  rcases hkid with ⟨hs, rfl⟩ | hf
  · refine g_mv rfl ?_; refine mv_call_bel (fun w hk => lload_seen lb g cb (deep - 1) (⟨r, msG (b : Int) (.int .i64 1) M, U ++ [(b : Int)], A, c, l, n⟩ : LdS) w (uv_snoc hu) hs (hk.rO (φ := packF (ldL lb g (⟨r, msG (b : Int) (.int .i64 1) M, U ++ [(b : Int)], A, c, l, n⟩ : LdS))) mE)) rfl rfl rfl rfl rfl (by kernel_rfl) ?_
    (repeat' (first | (refine gG ?_; try intro _) | ((first | refine g_split rfl rfl tE (fun _ => ?_) (fun _ => ?_) | refine gk_cond rfl rfl tE (fun _ => ?_) (fun _ => ?_)) <;> (try first | (exfalso; omega; done) | (rename_i hx; exact absurd rfl hx) | (rename_i hx; cases hx; done)))))
    refine gk_ret hT rfl rfl (.tmp rfl (.tmp rfl .nil)) (fun w' hk => ?_)
    exact RetM.mkP (ll := fun _ : Unit => []) () trivial rfl hk (fun b hb => (finE_mem h.2 b).1 hb) sA
  · refine g_mv rfl (mv_call_mod (φ := packF (ldL lb g (⟨r, msG (b : Int) (.int .i64 1) M, U ++ [(b : Int)], A, c, l, n⟩ : LdS))) (ψ := fun _ : Unit => packF []) (fun w hk => by exact hf (⟨r, msG (b : Int) (.int .i64 1) M, U ++ [(b : Int)], A, c, l, n⟩ : LdS) w rfl (uv_snoc hu) (hk.rR (φ := dkF g ⟨sv, lv, S, W⟩) mE) (fun b hb => hk.disR _ mE (dkF g ⟨sv, lv, S, W⟩) mE b hb) (hk.rO (φ := packF (ldL lb g (⟨r, msG (b : Int) (.int .i64 1) M, U ++ [(b : Int)], A, c, l, n⟩ : LdS))) mE)) rfl rfl rfl rfl rfl (by kernel_rfl) uD (fun q hq => ?_))
    (repeat' (first | (refine gG ?_; try intro _) | ((first | refine g_split rfl rfl tE (fun _ => ?_) (fun _ => ?_) | refine gk_cond rfl rfl tE (fun _ => ?_) (fun _ => ?_)) <;> (try first | (exfalso; omega; done) | (rename_i hx; exact absurd rfl hx) | (rename_i hx; cases hx; done)))))
    refine gk_ret hT rfl rfl (.tmp rfl (.tmp rfl .nil)) (fun w' hk => ?_)
    exact RetM.mkP (ll := fun _ : Unit => []) () trivial rfl hk (fun b hb => (finE_mem h.2 b).1 hb) sA
end Go.Proofs.YtaghmffgoomebaaGreat.St
