/- store's loader: a root above two leaves. -/
import Derived.Test.YtaghmffgoomebaaGreatStD
namespace Go.Proofs.YtaghmffgoomebaaGreat.St
open Go.RowKit Mem Gx Bytes Dk Al Rf Hp Nd Ch
set_option linter.unusedVariables false
set_option linter.unusedSimpArgs false
set_option maxRecDepth 100000
set_option maxHeartbeats 8000000
structure RtD where
  q : LdS
  d : NodeD
  d1 : NodeD
  d2 : NodeD
structure RtI (b c1 c2 : Nat) (s : LdS) (E L1 L2 : List EntD) (x : RtD) : Prop where
  m : MapIs x.q.M (uV x.q.U)
  U : x.q.U = s.U ++ [(b : Int)] ++ [(c1 : Int)] ++ [(c2 : Int)]
  l : x.q.l = s.l ++ [(c1 : Int)] ++ [(c2 : Int)] ++ [(b : Int)]
  n : x.q.n = s.n + (L1.length : Int) + (L2.length : Int)
  ok : x.d.Ok
  leaf : x.d.leaf = false
  Ks : x.d.Ks = E.map (·.k)
  Vs : x.d.Vs = []
  Cs : x.d.Cs = [x.d1.g, x.d2.g]
  a : x.d.a = (b : Int)
  k1 : IsLeafA c1 L1 x.d1
  k2 : IsLeafA c2 L2 x.d2
theorem lload_root (lb g b c1 c2 : Nat) (deep : Int) (s : LdS) (e1 e2 : EntD) (sv lv : Value) (S : List SecD) (W : List WrD) (w : World) (hu : MapIs s.M (uV s.U)) (hb : ¬ (b : Int) ∈ s.U) (hdp : 3 ≤ deep ∧ deep ≤ 1000) (hl9 : s.l.length ≤ 100) (hn9 : 0 ≤ s.n ∧ s.n ≤ 1000) (hb1 : 1 ≤ b) (hbS : b + 4 + 1 < S.length) (hD : DkOk S W) (hW : W.length ≤ 100000)
    (hX : SecOk (dread (S.map SecD.L) (W.map WrD.c) (b + 4 + 1))) (hc : ncode (dread (S.map SecD.L) (W.map WrD.c) (b + 4 + 1)) = 0) (hlf : (Page.getS (dread (S.map SecD.L) (W.map WrD.c) (b + 4 + 1))).1 ≠ 3) (hE : entsOf (dread (S.map SecD.L) (W.map WrD.c) (b + 4 + 1)) = [e1, e2]) (he1 : e1.a = (c1 : Int)) (he2 : e2.a = (c2 : Int))
    (hu1 : ¬ (c1 : Int) ∈ s.U ++ [(b : Int)]) (hu2 : ¬ (c2 : Int) ∈ s.U ++ [(b : Int)] ++ [(c1 : Int)]) (h11 : 1 ≤ c1) (h1S : c1 + 4 + 1 < S.length) (h21 : 1 ≤ c2) (h2S : c2 + 4 + 1 < S.length)
    (hX1 : SecOk (dread (S.map SecD.L) (W.map WrD.c) (c1 + 4 + 1))) (hk1 : ncode (dread (S.map SecD.L) (W.map WrD.c) (c1 + 4 + 1)) = 0) (hf1 : (Page.getS (dread (S.map SecD.L) (W.map WrD.c) (c1 + 4 + 1))).1 = 3) (hX2 : SecOk (dread (S.map SecD.L) (W.map WrD.c) (c2 + 4 + 1))) (hk2 : ncode (dread (S.map SecD.L) (W.map WrD.c) (c2 + 4 + 1)) = 0) (hf2 : (Page.getS (dread (S.map SecD.L) (W.map WrD.c) (c2 + 4 + 1))).1 = 3)
    (hdk : Rd1 w (dkF g ⟨sv, lv, S, W⟩)) (hdis : ∀ x, (packF (ldL lb g s)).S x → ¬ (dkF g ⟨sv, lv, S, W⟩).S x) (h : Rd1 w (packF (ldL lb g s))) :
    Calls Tryz.prog 30 [.pointer (some ⟨lb, 0, none⟩), .int .u32 (b : Nat), .int .i64 deep].toArray w (RetM (packF (ldL lb g s)) (RtI b c1 c2 s [e1, e2] (entsOf (dread (S.map SecD.L) (W.map WrD.c) (c1 + 4 + 1))) (entsOf (dread (S.map SecD.L) (W.map WrD.c) (c2 + 4 + 1)))) (fun x => .tuple #[x.d.ptr, .int .i64 0]) (fun x => packF (ldL lb g x.q ++ (x.d.fs ++ (x.d1.fs ++ x.d2.fs)))) w) := by
  have hS9 := hD.n
  obtain ⟨r, M, U, A, c, l, n⟩ := s
  dsimp only at hu hb hl9 hn9 hu1 hu2
  have hrd := fun w h => pread_any g 4 sv lv S W b w hD hW hb1 (by omega) (by decide) hbS h
  obtain ⟨X, hXe⟩ : ∃ X, X = (dread (S.map SecD.L) (W.map WrD.c) (b + 4 + 1)) := ⟨_, rfl⟩
  rw [← hXe] at hX hc hlf hrd hE
  refine g_enter0 T (finE (packF (ldL lb g ⟨r, M, U, A, c, l, n⟩)) w) [blk lb [.pointer (some ⟨g, 0, none⟩), .int .i64 ((4 : Nat) : Int), .map (some r), .slice A l.length c, .int .i64 n] 81, mpk r (Value.int .u32) M, own 0 26 1 (.slice A l.length c) (IE .u32) l] [dkF g ⟨sv, lv, S, W⟩] Tryz.func30 rfl Tryz.ntmps30 rfl (Kn.startP h (fun b hb => (finE_mem h.2 b).2 hb) (fun ψ hψ => by obtain rfl := List.mem_singleton.1 hψ; exact ⟨hdk, hdis⟩)) ?_
  (repeat' (first | (refine gG ?_; try intro _) | ((first | refine g_split rfl rfl tE (fun _ => ?_) (fun _ => ?_) | refine gk_cond rfl rfl tE (fun _ => ?_) (fun _ => ?_)) <;> (try first | (exfalso; omega; done) | (rename_i hx; exact absurd rfl hx) | (rename_i hx; cases hx; done)))))
  refine g_yd rfl rfl ((ys_lookupG (S := [mpk r (Value.int .u32) M]) (b : Int) rfl rfl rfl rfl Tryz.underlying79 kok_u zero_I (.head _)).ydS sF) ?_
  refine g_say 26 (.int .i64 (if (b : Int) ∈ U then 1 else 0)) rfl (lk_u hu b) ?_
  rw [if_neg hb]
  (repeat' (first | (refine gG ?_; try intro _) | ((first | refine g_split rfl rfl tE (fun _ => ?_) (fun _ => ?_) | refine gk_cond rfl rfl tE (fun _ => ?_) (fun _ => ?_)) <;> (try first | (exfalso; omega; done) | (rename_i hx; exact absurd rfl hx) | (rename_i hx; cases hx; done)))))
  refine g_mv rfl (mv_mapUpdateG rfl (b : Int) rfl rfl rfl rfl rfl Tryz.underlying79 kok_u (by first | ((repeat (first | with_reducible exact Upd.here _ | with_reducible apply Upd.there)); done) | ((repeat (first | exact Upd.here _ | apply Upd.there)); done) | fail) ?_)
  (repeat (refine gG ?_; try intro _))
  refine g_mv rfl ?_; refine mv_call_rt (fun w hk => hrd w (hk.rR (φ := dkF g ⟨sv, lv, S, W⟩) mE)) rfl rfl rfl rfl rfl (by kernel_rfl) (fun _ => rfl) (fun u hu3 => ?_)
  (repeat' (first | (refine gG ?_; try intro _) | ((first | refine g_split rfl rfl tE (fun _ => ?_) (fun _ => ?_) | refine gk_cond rfl rfl tE (fun _ => ?_) (fun _ => ?_)) <;> (try first | (exfalso; omega; done) | (rename_i hx; exact absurd rfl hx) | (rename_i hx; cases hx; done)))))
  refine g_mv rfl ?_; refine mv_call_rt (fun w hk => nget_any u.A u.n u.c X w hu3 (hk.pO (sl u.A 1 (IE .u8) X) mE) hX.2) rfl rfl rfl rfl rfl (by kernel_rfl) (fun _ => rfl) (fun rr hr => ?_)
  obtain ⟨⟨⟨rA, rn, rc⟩, RM⟩, rl, re⟩ := rr
  obtain ⟨r1, r2, r3, r4⟩ := hr
  dsimp only [SlV.v] at r1 r2 r3 r4 ⊢
  rw [if_pos hc] at r3 r4
  rw [hc] at r2
  rw [tB_false hlf] at r4
  replace r3 : RM = [e1, e2] := r3.trans hE
  subst r2 r4 r3
  have hrn : rn = 2 := r1.n
  subst hrn
  (repeat' (first | (refine gG ?_; try intro _) | ((first | refine g_split rfl rfl tE (fun _ => ?_) (fun _ => ?_) | refine gk_cond rfl rfl tE (fun _ => ?_) (fun _ => ?_)) <;> (try first | (exfalso; omega; done) | (rename_i hx; exact absurd rfl hx) | (rename_i hx; cases hx; done)))))
  refine g_mv rfl ?_; refine mv_call_rt (fun w hk => leafN_any rA 2 rc [e1, e2] w rfl (by simp) (hk.pO (sl rA 4 EE [e1, e2]) mE)) rfl rfl rfl rfl rfl (by kernel_rfl) (fun _ => rfl) (fun d hd => ?_)
  obtain ⟨dg, lf, ⟨KA, Km, Kc⟩, Ks, ⟨VA, Vn, Vc⟩, Vs, C0, Cs, da⟩ := d
  obtain ⟨⟨hd0, q1, q2, q3, q4, _⟩, q6, q5⟩ := hd
  dsimp only at q1 q2 q3 q4 q5 q6
  subst q1 q2 q3 q4 q5 q6
  dsimp only [NodeD.fs, NodeD.ptr, SlV.v]
  refine g_share (φ := sl rA 4 EE [e1, e2]) (by repeat (first | with_reducible exact Sel.here | with_reducible apply Sel.there)) ?_
  refine g_elem (A := rA) (enc := EE) (L := [e1, e2]) 0 mE (by simp) (by decide) (fun eg eo y eA hy => ?_)
  subst eA
  obtain rfl := Option.some.inj hy
  refine g_elem (A := some ⟨eg, eo, none⟩) (enc := EE) (L := [e1, e2]) 1 mE (by simp) (by decide) (fun eg2 eo2 y eA hy => ?_)
  cases eA
  obtain rfl := Option.some.inj hy
  (repeat' (first | (refine gG ?_; try intro _) | ((first | refine g_split rfl rfl tE (fun _ => ?_) (fun _ => ?_) | refine gk_cond rfl rfl tE (fun _ => ?_) (fun _ => ?_)) <;> (try first | (exfalso; omega; done) | (rename_i hx; exact absurd rfl hx) | (rename_i hx; cases hx; done)))))
  refine gk_own 0 53 1 PE ?_
  refine gk_rounds 3 rfl ?_
  (repeat' (first | (refine gG ?_; try intro _) | ((first | refine g_split rfl rfl tE (fun _ => ?_) (fun _ => ?_) | refine gk_cond rfl rfl tE (fun _ => ?_) (fun _ => ?_)) <;> (try first | (exfalso; omega; done) | (rename_i hx; exact absurd rfl hx) | (rename_i hx; cases hx; done)))))
  refine g_say 82 (.int .u32 (c1 : Nat)) rfl (by show Value.int .u32 e1.a = _; rw [he1]) ?_
  refine g_pack (ldL lb g (⟨r, msG (b : Int) (.int .i64 1) M, U ++ [(b : Int)], A, c, l, n⟩ : LdS)) [blk dg [.bool false, .slice KA Km Kc, .slice none 0 0, .slice none 0 0, .int .u32 0] 109, sl KA 3 KE ([e1, e2].map (·.k)), own 0 53 1 (.slice none 0 0) PE ([] : List Nat)] sA ?_
  refine g_mv rfl (mv_call_mod (φ := packF (ldL lb g (⟨r, msG (b : Int) (.int .i64 1) M, U ++ [(b : Int)], A, c, l, n⟩ : LdS))) (ψ := fun q : LdS × NodeD => packF (ldL lb g q.1 ++ q.2.fs)) (fun w hk => by exact lload_leaf lb g c1 (deep - 1) (⟨r, msG (b : Int) (.int .i64 1) M, U ++ [(b : Int)], A, c, l, n⟩ : LdS) sv lv S W w (uv_snoc hu) hu1 (by omega) (by dsimp only; omega) (by dsimp only; omega) h11 h1S hD hW hX1 hk1 hf1 (hk.rR (φ := dkF g ⟨sv, lv, S, W⟩) mE) (fun b hb => hk.disR _ mE (dkF g ⟨sv, lv, S, W⟩) mE b hb) (hk.rO (φ := packF (ldL lb g (⟨r, msG (b : Int) (.int .i64 1) M, U ++ [(b : Int)], A, c, l, n⟩ : LdS))) mE)) rfl rfl rfl rfl rfl (by kernel_rfl) uD (fun q hq => ?_))
  obtain ⟨⟨rr1, M1, U1, A1, k1, l1, n1⟩, d1⟩ := q
  obtain ⟨m1, uu, ll, nn, dd1⟩ := hq
  dsimp only at m1 uu ll nn dd1 ⊢
  subst uu ll nn
  refine g_unpack (l := ldL lb g (⟨rr1, M1, U ++ [(b : Int)] ++ [(c1 : Int)], A1, k1, l ++ [(c1 : Int)], n + ((entsOf (dread (S.map SecD.L) (W.map WrD.c) (c1 + 4 + 1))).length : Int)⟩ : LdS) ++ d1.fs) (by repeat (first | with_reducible exact Sel.here | with_reducible apply Sel.there)) ?_
  dsimp only [ldL, NodeD.fs, NodeD.ptr, List.cons_append, List.nil_append]
  (repeat' (first | (refine gG ?_; try intro _) | ((first | refine g_split rfl rfl tE (fun _ => ?_) (fun _ => ?_) | refine gk_cond rfl rfl tE (fun _ => ?_) (fun _ => ?_)) <;> (try first | (exfalso; omega; done) | (rename_i hx; exact absurd rfl hx) | (rename_i hx; cases hx; done)))))
  refine g_mv rfl (mv_append (L := ([] : List Nat)) rfl [d1.g] rfl rfl rfl rfl Nd.elt_P uD (src_blk mE rfl) rfl (by intro x j; rfl) (by simp only [maxLen, List.length_append, List.length_cons, List.length_nil]; omega) (by simp only [List.length_append, List.length_cons, List.length_nil]; omega) (Nat.zero_le _) ?_)
  intro v2
  refine g_ownv v2 mE (fun pA1 pc1 hv3 _ _ _ => ?_)
  subst hv3
  rw [List.nil_append]
  (repeat (refine gG ?_; try intro _))
  refine gk_next rfl ?_
  (repeat' (first | (refine gG ?_; try intro _) | ((first | refine g_split rfl rfl tE (fun _ => ?_) (fun _ => ?_) | refine gk_cond rfl rfl tE (fun _ => ?_) (fun _ => ?_)) <;> (try first | (exfalso; omega; done) | (rename_i hx; exact absurd rfl hx) | (rename_i hx; cases hx; done)))))
  refine g_say 82 (.int .u32 (c2 : Nat)) rfl (by show Value.int .u32 e2.a = _; rw [he2]) ?_
  have hE1 : (entsOf (dread (S.map SecD.L) (W.map WrD.c) (c1 + 4 + 1))).length ≤ 6 := by unfold entsOf; rw [decN_len]; unfold nB; omega
  refine g_pack (ldL lb g (⟨rr1, M1, U ++ [(b : Int)] ++ [(c1 : Int)], A1, k1, l ++ [(c1 : Int)], n + ((entsOf (dread (S.map SecD.L) (W.map WrD.c) (c1 + 4 + 1))).length : Int)⟩ : LdS)) [blk dg [.bool false, .slice KA Km Kc, .slice none 0 0, .slice pA1 [d1.g].length pc1, .int .u32 0] 109, sl KA 3 KE ([e1, e2].map (·.k)), own 0 53 1 (.slice pA1 [d1.g].length pc1) PE [d1.g], blk d1.g [.bool d1.leaf, d1.K.v, d1.V.v, d1.C.v, .int .u32 d1.a] 109, sl d1.K.A 3 KE d1.Ks, sl d1.V.A 1 (IE .u32) d1.Vs, sl d1.C.A 1 PE d1.Cs] sA ?_
  refine g_mv rfl (mv_call_mod (φ := packF (ldL lb g (⟨rr1, M1, U ++ [(b : Int)] ++ [(c1 : Int)], A1, k1, l ++ [(c1 : Int)], n + ((entsOf (dread (S.map SecD.L) (W.map WrD.c) (c1 + 4 + 1))).length : Int)⟩ : LdS))) (ψ := fun q : LdS × NodeD => packF (ldL lb g q.1 ++ q.2.fs)) (fun w hk => by exact lload_leaf lb g c2 (deep - 1) (⟨rr1, M1, U ++ [(b : Int)] ++ [(c1 : Int)], A1, k1, l ++ [(c1 : Int)], n + ((entsOf (dread (S.map SecD.L) (W.map WrD.c) (c1 + 4 + 1))).length : Int)⟩ : LdS) sv lv S W w m1 hu2 (by omega) (by dsimp only; rw [List.length_append]; simp; omega) (by dsimp only; omega) h21 h2S hD hW hX2 hk2 hf2 (hk.rR (φ := dkF g ⟨sv, lv, S, W⟩) mE) (fun b hb => hk.disR _ mE (dkF g ⟨sv, lv, S, W⟩) mE b hb) (hk.rO (φ := packF (ldL lb g (⟨rr1, M1, U ++ [(b : Int)] ++ [(c1 : Int)], A1, k1, l ++ [(c1 : Int)], n + ((entsOf (dread (S.map SecD.L) (W.map WrD.c) (c1 + 4 + 1))).length : Int)⟩ : LdS))) mE)) rfl rfl rfl rfl rfl (by kernel_rfl) uD (fun q hq => ?_))
  obtain ⟨⟨rr2, M2, U2, A2, k2, l2, n2⟩, d2⟩ := q
  obtain ⟨m2, uu, ll, nn, dd2⟩ := hq
  dsimp only at m2 uu ll nn dd2 ⊢
  subst uu ll nn
  refine g_unpack (l := ldL lb g (⟨rr2, M2, U ++ [(b : Int)] ++ [(c1 : Int)] ++ [(c2 : Int)], A2, k2, l ++ [(c1 : Int)] ++ [(c2 : Int)], n + ((entsOf (dread (S.map SecD.L) (W.map WrD.c) (c1 + 4 + 1))).length : Int) + ((entsOf (dread (S.map SecD.L) (W.map WrD.c) (c2 + 4 + 1))).length : Int)⟩ : LdS) ++ d2.fs) (by repeat (first | with_reducible exact Sel.here | with_reducible apply Sel.there)) ?_
  dsimp only [ldL, NodeD.fs, NodeD.ptr, List.cons_append, List.nil_append]
  (repeat' (first | (refine gG ?_; try intro _) | ((first | refine g_split rfl rfl tE (fun _ => ?_) (fun _ => ?_) | refine gk_cond rfl rfl tE (fun _ => ?_) (fun _ => ?_)) <;> (try first | (exfalso; omega; done) | (rename_i hx; exact absurd rfl hx) | (rename_i hx; cases hx; done)))))
  refine g_mv rfl (mv_append (L := [d1.g]) rfl [d2.g] rfl rfl rfl rfl Nd.elt_P uD (src_blk mE rfl) rfl (by intro x j; rfl) (by simp only [maxLen, List.length_append, List.length_cons, List.length_nil]; omega) (by simp only [List.length_append, List.length_cons, List.length_nil]; omega) (Nat.zero_le _) ?_)
  intro v3
  refine g_ownv v3 mE (fun pA2 pc2 hv3 _ _ _ => ?_)
  subst hv3
  (repeat (refine gG ?_; try intro _))
  refine gk_next rfl ?_
  (repeat' (first | (refine gG ?_; try intro _) | ((first | refine g_split rfl rfl tE (fun _ => ?_) (fun _ => ?_) | refine gk_cond rfl rfl tE (fun _ => ?_) (fun _ => ?_)) <;> (try first | (exfalso; omega; done) | (rename_i hx; exact absurd rfl hx) | (rename_i hx; cases hx; done)))))
  refine g_mv rfl (mv_append (L := l ++ [(c1 : Int)] ++ [(c2 : Int)]) rfl [(b : Int)] rfl rfl rfl rfl Ch.elt_U uD (src_blk mE rfl) rfl Ch.oneU (by simp only [maxLen, List.length_append, List.length_cons, List.length_nil]; omega) (by simp only [List.length_append, List.length_cons, List.length_nil]; omega) (Nat.zero_le _) ?_)
  intro v4
  refine g_ownv v4 mE (fun A9 k9 hv4 _ _ _ => ?_)
  subst hv4
  (repeat (refine gG ?_; try intro _))
  refine gk_freeze (.slice pA2 ([d1.g] ++ [d2.g]).length pc2) uD (fun A' c' e f1 f2 f3 => ?_)
  injection e with eA _ ec
  subst eA
  subst ec
  refine gk_nilsl none 1 (IE .u32) ?_
  refine gk_ret hT rfl rfl (.tmp rfl (.tmp rfl .nil)) (fun w' hk => ?_)
  exact RetM.mkP (ll := fun x : RtD => ldL lb g x.q ++ (x.d.fs ++ (x.d1.fs ++ x.d2.fs))) (⟨(⟨rr2, M2, U ++ [(b : Int)] ++ [(c1 : Int)] ++ [(c2 : Int)], A9, k9, l ++ [(c1 : Int)] ++ [(c2 : Int)] ++ [(b : Int)], n + ((entsOf (dread (S.map SecD.L) (W.map WrD.c) (c1 + 4 + 1))).length : Int) + ((entsOf (dread (S.map SecD.L) (W.map WrD.c) (c2 + 4 + 1))).length : Int)⟩ : LdS), ⟨dg, false, ⟨KA, Km, Kc⟩, [e1, e2].map (·.k), ⟨none, 0, 0⟩, [], ⟨pA2, 2, pc2⟩, [d1.g, d2.g], (b : Int)⟩, d1, d2⟩ : RtD) ⟨m2, rfl, rfl, rfl, ⟨hd0.K, SlV.ok_nil, ⟨rfl, f1, f2, f3⟩⟩, rfl, rfl, rfl, rfl, rfl, dd1, dd2⟩ rfl hk (fun b hb => (finE_mem h.2 b).1 hb) sA
end Go.Proofs.YtaghmffgoomebaaGreat.St
