/- A leaf's sector. -/
import Derived.Test.YtokhfkbbhdaghaaGreatStL
import Derived.Test.YtokhfkbbhdaghaaGreatPage8
namespace Go.Proofs.YtokhfkbbhdaghaaGreat.Nd
open Go.RowKit Mem Gx Bytes
set_option linter.unusedVariables false
set_option linter.unusedSimpArgs false
set_option maxRecDepth 100000
set_option maxHeartbeats 4000000
def keyB (k : KeyD) : List Int := le k.v 2 ++ le k.b 4 ++ le k.s 8
theorem keyB_len (k : KeyD) : (keyB k).length = 14 := by simp [keyB, le_length]
theorem kput_any (base : Nat) (v : Value) (L : List Int) (k : KeyD) (w : World) (hk : k.Bd) (h : OwnL w base 5 1 v (IE .u8) L) (hL : L.length ≤ 10000) (hb : base ≤ w.heap.size) :
    Calls Tryz.prog 82 [v, k.val].toArray w fun e w' => ∃ v', e = .returned v' ∧ OwnL w' base 5 1 v' (IE .u8) (L ++ keyB k) ∧ Grew w w' v v' := by
  have k1 := hk.v
  have k2 := hk.b
  have k3 := hk.s
  refine g_enter0 T (ownE v) [own base 5 1 v (IE .u8) L] [] Tryz.func82 rfl Tryz.ntmps82 rfl (Kn.startG h) ?_
  (repeat (refine gG ?_; try intro _))
  refine g_mv rfl ?_; refine mv_call_grow (fun w hk => Fix.put_any base v L k.v 2 2 w rfl (by omega) (by omega) (hk.pO (own base 5 1 v (IE .u8) L) mE) (by omega) (Nat.le_trans hb hk.size)) rfl rfl rfl rfl rfl (by kernel_rfl) (by intro _; first | ((repeat (first | with_reducible exact Upd.here _ | with_reducible apply Upd.there)); done) | ((repeat (first | exact Upd.here _ | apply Upd.there)); done) | fail) (fun v1 => ?_)
  (repeat (refine gG ?_; try intro _))
  refine g_mv rfl ?_; refine mv_call_grow (fun w hk => Fix.put_any base v1 (L ++ le k.v 2) k.b 4 4 w rfl (by omega) (by omega) (hk.pO (own base 5 1 v1 (IE .u8) (L ++ le k.v 2)) mE) (by simp only [List.length_append, le_length]; omega) (Nat.le_trans hb hk.size)) rfl rfl rfl rfl rfl (by kernel_rfl) (by intro _; first | ((repeat (first | with_reducible exact Upd.here _ | with_reducible apply Upd.there)); done) | ((repeat (first | exact Upd.here _ | apply Upd.there)); done) | fail) (fun v2 => ?_)
  (repeat (refine gG ?_; try intro _))
  refine g_mv rfl ?_; refine mv_call_grow (fun w hk => Fix.put_any base v2 (L ++ le k.v 2 ++ le k.b 4) k.s 8 8 w rfl (by omega) (by omega) (hk.pO (own base 5 1 v2 (IE .u8) (L ++ le k.v 2 ++ le k.b 4)) mE) (by simp only [List.length_append, le_length]; omega) (Nat.le_trans hb hk.size)) rfl rfl rfl rfl rfl (by kernel_rfl) (by intro _; first | ((repeat (first | with_reducible exact Upd.here _ | with_reducible apply Upd.there)); done) | ((repeat (first | exact Upd.here _ | apply Upd.there)); done) | fail) (fun v3 => ?_)
  (repeat (refine gG ?_; try intro _))
  refine gk_ret hT rfl rfl (.tmp rfl .nil) (fun w' hk => ?_)
  obtain ⟨h1, h2⟩ := Kn.outG (L := L ++ le k.v 2 ++ le k.b 4 ++ le k.s 8) (base := base) (e := 5) (sz := 1) (enc := IE .u8) (v' := v3) hk mE (by simp only [List.length_append, le_length]; omega)
  refine ⟨v3, rfl, ?_, h2⟩
  have e : L ++ keyB k = L ++ le k.v 2 ++ le k.b 4 ++ le k.s 8 := by unfold keyB; simp only [List.append_assoc]
  rw [e]
  exact h1
/-- Entries whose keys rise. -/
theorem ret_of_own {α : Type} [Inhabited α] {F : Value → Value} {sz : Nat} {enc : α → Nat → Value} {L : List α} {P : Program} {fid : FuncId} {args : Array Value} {w : World} {e' : TypeId} (hsz : 0 < sz) (h : Calls P fid args w fun e w' => ∃ v, e = .returned (F v) ∧ OwnL w' w.heap.size e' sz v enc L ∧ Below w.heap.size w w') :
    Calls P fid args w (Ret (fun s : SlV => s.Ok L.length) (fun s => F s.v) (fun s => [sl s.A sz enc L]) w) :=
  h.mono fun e w' ⟨v, h1, h2, h3⟩ => by
    obtain ⟨A, c, rfl, k1, k2, k3, k4, k5⟩ := OwnL.sl h2
    refine ⟨⟨A, _, c⟩, ⟨rfl, k2, k3, k4⟩, h1, ⟨h3, fun φ hφ => ?_, List.pairwise_singleton _ _⟩⟩
    obtain rfl := List.mem_singleton.1 hφ
    refine ⟨k1, fun b hb => ?_⟩
    obtain ⟨_, a, ha, hab⟩ := hb
    rw [← hab]
    exact k5 a ha
abbrev RetB (F : Value → Value) (L : List Int) (w : World) : Ending → World → Prop := Ret (fun s : SlV => s.Ok L.length) (fun s => F s.v) (fun s => [sl s.A 1 (IE .u8) L]) w
theorem pput_any (k : Int) (s : SlV) (L : List Int) (w : World) (h1 : 1 ≤ k) (h2 : k ≤ 6) (hs : s.Ok L.length) (hL : L.length ≤ 120) (h : Sl w s.A 1 (IE .u8) L) (hB : IsB L) :
    Calls Tryz.prog 83 [.int .i64 k, s.v].toArray w (RetB (fun v => .tuple #[v, .int .i64 0]) (Page.page k L) w) :=
  ret_of_own (by decide) (Page.put_ok k s.A s.n s.c L w h1 h2 hs.n (by rw [hs.n]; exact hL) h hB)
/-- The bytes of entries. -/
def entB (e : EntD) : List Int := keyB e.k ++ le e.a 4
def entsB (L : List EntD) : List Int := L.flatMap entB
def nodeB (L : List EntD) : List Int := [(L.length : Int)] ++ entsB L
theorem entB_len (e : EntD) : (entB e).length = 18 := by unfold entB; rw [List.length_append, keyB_len, le_length]
theorem entsB_len (L : List EntD) : (entsB L).length = 18 * L.length := by
  induction L with
  | nil => rfl
  | cons x r ih => show (entB x ++ entsB r).length = _; rw [List.length_append, ih, entB_len, List.length_cons]; omega
theorem nodeB_len (L : List EntD) : (nodeB L).length = 1 + 18 * L.length := by unfold nodeB; rw [List.length_append, entsB_len]; rfl
theorem entsB_snoc {L : List EntD} {j : Nat} {y : EntD} (h : L[j]? = some y) : entsB (L.take (j + 1)) = entsB (L.take j) ++ entB y := by
  have hk : j < L.length := by
    rcases Nat.lt_or_ge j L.length with h1 | h1
    · exact h1
    · rw [List.getElem?_eq_none h1] at h; cases h
  rw [List.take_succ_eq_append_getElem hk]
  rw [List.getElem?_eq_getElem hk] at h
  injection h with h
  unfold entsB
  rw [List.flatMap_append, h]
  simp
theorem entB_isB (e : EntD) : IsB (entB e) := ((((le_isB _ _).append (le_isB _ _)).append (le_isB _ _))).append (le_isB _ _)
theorem entsB_isB (L : List EntD) : IsB (entsB L) := by
  intro x hx
  obtain ⟨y, _, hy⟩ := List.mem_flatMap.1 hx
  exact entB_isB y x hy
theorem nodeB_isB (L : List EntD) (h : L.length ≤ 255) : IsB (nodeB L) := (IsB.cons (by omega) IsB.nil).append (entsB_isB L)
structure EntD.Bd (e : EntD) : Prop where
  k : e.k.Bd
  a : 0 ≤ e.a ∧ e.a < 4294967296
theorem own_sl {E : List Nat} {w0 w : World} {O R : List Fact} {α : Type} [Inhabited α] {base e sz n c : Nat} {A : Option Addr} {enc : α → Nat → Value} {L : List α} (hk : Kn E w0 w O R) (h : own base e sz (.slice A n c) enc L ∈ O) : Sl w A sz enc L := by
  obtain ⟨A', c', hv, hs, _⟩ := hk.ownSl h
  injection hv with h1 h2 h3
  subst h1
  exact hs
theorem nlen_any (g : Nat) (cs : List Value) (lf : Bool) (K V C : SlV) (a : Int) (w : World) (h : w.heap[g]? = some (.cells [.bool lf, K.v, V.v, C.v, .int .u32 a].toArray 105 (0, 0))) :
    Calls Tryz.prog 71 [.pointer (some ⟨g, 0, none⟩)].toArray w fun e w' => e = .returned (.int .i64 (K.n : Int)) ∧ Below w.heap.size w w' := by
  have hB : Rd1 w (blk g [.bool lf, K.v, V.v, C.v, .int .u32 a] 105) := ⟨h, fun b hb => by
    obtain rfl : b = g := hb
    exact (Array.getElem?_eq_some_iff.1 h).1⟩
  refine g_enter0 T [] [] [blk g [.bool lf, K.v, V.v, C.v, .int .u32 a] 105] Tryz.func71 rfl Tryz.ntmps71 rfl (Rds.cons hB .nil).kn ?_
  refine gk_rowR (g := g) mE ?_
  (repeat (refine gG ?_; try intro _))
  refine gk_ret hT rfl rfl (.tmp rfl .nil) (fun w' hk => ?_)
  exact ⟨rfl, hk.toBelow⟩
/-- What node.Put hands back. -/
structure BS where
  s : SlV
  M : List Int
  c : Int
noncomputable def putC (L : List EntD) (lf : Bool) : Int := if L.length = 0 ∨ 6 < L.length then 10 else if (!lf && tB (∃ e, e ∈ L ∧ e.a = 0)) = true then 60 else 0
noncomputable def putM (L : List EntD) (lf : Bool) : List Int := if putC L lf = 0 then Page.page (if lf = true then 3 else 4) (nodeB L) else []
structure PutI (L : List EntD) (lf : Bool) (r : BS) : Prop where
  ok : r.s.Ok r.M.length
  c : r.c = putC L lf
  M : r.M = putM L lf
theorem putI_no {L : List EntD} {lf : Bool} {c : Int} (h : putC L lf = c) (h0 : c ≠ 0) : PutI L lf ⟨⟨none, 0, 0⟩, [], c⟩ :=
  ⟨SlV.ok_nil, h.symm, by show [] = putM L lf; unfold putM; rw [h, if_neg h0]⟩
theorem putI_ok {L : List EntD} {lf : Bool} {s : SlV} {M : List Int} (h : putC L lf = 0) (hM : M = Page.page (if lf = true then 3 else 4) (nodeB L)) (hs : s.Ok M.length) : PutI L lf ⟨s, M, 0⟩ :=
  ⟨hs, h.symm, by show M = putM L lf; unfold putM; rw [if_pos h, hM]⟩
abbrev RetP (L : List EntD) (lf : Bool) (w : World) : Ending → World → Prop := Ret (PutI L lf) (fun r => .tuple #[r.s.v, .int .i64 r.c]) (fun r => [sl r.s.A 1 (IE .u8) r.M]) w
theorem nlen' (g : Nat) (lf : Bool) (KA : Option Addr) (Kn Kc : Nat) (VA : Option Addr) (Vn Vc : Nat) (CA : Option Addr) (Cn Cc : Nat) (a : Int) (w : World) (h : w.heap[g]? = some (.cells [.bool lf, .slice KA Kn Kc, .slice VA Vn Vc, .slice CA Cn Cc, .int .u32 a].toArray 105 (0, 0))) :
    Calls Tryz.prog 71 [.pointer (some ⟨g, 0, none⟩)].toArray w fun e w' => e = .returned (.int .i64 (Kn : Int)) ∧ Below w.heap.size w w' := nlen_any g [] lf ⟨KA, Kn, Kc⟩ ⟨VA, Vn, Vc⟩ ⟨CA, Cn, Cc⟩ a w h
theorem nput_arg (g : Nat) (lf : Bool) (K V C : SlV) (a : Int) (L : List EntD) (lfl : Bool) (w : World) (h : L.length = 0 ∨ 6 < L.length) (hn : K.n = L.length) (hB : Rds w [blk g [.bool lf, K.v, V.v, C.v, .int .u32 a] 105]) :
    Calls Tryz.prog 61 [.pointer (some ⟨g, 0, none⟩)].toArray w (RetP L lfl w) := by
  refine g_enter0 T [] [] [blk g [.bool lf, K.v, V.v, C.v, .int .u32 a] 105] Tryz.func61 rfl Tryz.ntmps61 rfl hB.kn ?_
  (repeat' (first | (refine gG ?_; try intro _) | (refine g_mv rfl ?_; first | refine mv_call_bel (fun w hk => nlen_any g [] lf K V C a w (hk.pR (blk g [.bool lf, K.v, V.v, C.v, .int .u32 a] 105) mE)) rfl rfl rfl rfl rfl (by kernel_rfl) ?_) | ((first | refine g_split rfl rfl tE (fun _ => ?_) (fun _ => ?_) | refine gk_cond rfl rfl tE (fun _ => ?_) (fun _ => ?_)) <;> (try first | (exfalso; omega; done) | (rename_i hx; exact absurd rfl hx) | (rename_i hx; cases hx; done)))))
  all_goals (refine gk_nilsl none 1 (IE .u8) ?_; refine gk_ret hT rfl rfl (.tmp rfl (.tmp rfl .nil)) (fun w' hk => ?_); exact Ret.mk ⟨⟨none, 0, 0⟩, [], 10⟩ (putI_no (by unfold putC; rw [if_pos h]) (by decide)) rfl hk sA)
theorem nput_leaf (d : NodeD) (L : List EntD) (w : World) (hd : IsLeaf L d) (h1 : 0 < L.length) (h6 : L.length ≤ 6) (hbd : ∀ e ∈ L, e.Bd) (hB0 : Rds w [blk d.g [.bool d.leaf, d.K.v, d.V.v, d.C.v, .int .u32 d.a] 105, sl d.K.A 3 KE d.Ks, sl d.V.A 1 (IE .u32) d.Vs]) :
    Calls Tryz.prog 61 [.pointer (some ⟨d.g, 0, none⟩)].toArray w (RetP L true w) := by
  obtain ⟨g, leaf, ⟨KA, Kn, Kc⟩, Ks, ⟨VA, Vn, Vc⟩, Vs, ⟨CA, Cn, Cc⟩, Cs, a⟩ := d
  obtain ⟨⟨hK, hV, hC⟩, e1, e2, e3, e4, e5⟩ := hd
  dsimp only at e1 e2 e3 e4 e5
  subst e1 e2 e3 e4 e5
  have hn : Kn = L.length := by have := hK.n; rw [List.length_map] at this; exact this
  have hVn : Vn = L.length := by have := hV.n; rw [List.length_map] at this; exact this
  have hB : Rds w [blk g [.bool true, .slice KA Kn Kc, .slice VA Vn Vc, .slice CA Cn Cc, .int .u32 0] 105, sl KA 3 KE (L.map (·.k)), sl VA 1 (IE .u32) (L.map (·.a))] := hB0
  clear hB0
  refine g_enter0 T [] [] [blk g [.bool true, .slice KA Kn Kc, .slice VA Vn Vc, .slice CA Cn Cc, .int .u32 0] 105, sl KA 3 KE (L.map (·.k)), sl VA 1 (IE .u32) (L.map (·.a))] Tryz.func61 rfl Tryz.ntmps61 rfl hB.kn ?_
  refine gk_rowR (g := g) mE ?_
  (repeat' (first | (refine gG ?_; try intro _) | (refine g_mv rfl ?_; first | refine mv_call_bel (fun w hk => nlen' g true KA Kn Kc VA Vn Vc CA Cn Cc 0 w (hk.pR (blk g [.bool true, .slice KA Kn Kc, .slice VA Vn Vc, .slice CA Cn Cc, .int .u32 0] 105) mE)) rfl rfl rfl rfl rfl (by kernel_rfl) ?_) | ((first | refine g_split rfl rfl tE (fun _ => ?_) (fun _ => ?_) | refine gk_cond rfl rfl tE (fun _ => ?_) (fun _ => ?_)) <;> (try first | (exfalso; omega; done) | (rename_i hx; exact absurd rfl hx) | (rename_i hx; cases hx; done)))))
  refine gk_drawn_at [0] rfl rfl (by kernel_rfl) ?_
  (repeat (first | refine ga_nil (by decide +kernel) ?_ | refine ga_take (by decide +kernel) rfl rfl (ys_ev (nw := true) hT rfl sI) sF ?_ | refine ga_skip (by decide +kernel) rfl rfl sF ?_ | refine ga_take (by decide +kernel) rfl rfl (ys_blk hT rfl rfl mE rfl rfl) sF ?_ | refine ga_take (by decide +kernel) rfl rfl (ys_row hT rfl rfl mE rfl rfl) sF ?_ | refine ga_take (by decide +kernel) rfl rfl (ys_row0 hT rfl rfl mE rfl rfl) sF ?_ | (refine ga_mv (by decide +kernel) rfl ?_; (first | (refine mv_box rfl rfl rfl rfl ?_; intro _) | (refine mv_alloc rfl hT rfl rfl ?_; intro _) | refine mv_store hT rfl rfl rfl rfl rfl rfl sO rfl ?_ | (refine mv_buildSlice rfl hT rfl rfl rfl rfl rfl rfl rfl rfl ?_; intro _)); refine ⟨sF, ?_⟩) | refine ga_take (by decide +kernel) rfl rfl (ys_eql rfl rfl rfl rfl rfl (by kernel_rfl)) sF ?_ | refine ga_take (by decide +kernel) rfl rfl (ys_neq rfl rfl rfl rfl rfl (by kernel_rfl)) sF ?_))
  (repeat' (first | (refine gG ?_; try intro _) | (refine g_mv rfl ?_; first | refine mv_call_bel (fun w hk => nlen' g true KA Kn Kc VA Vn Vc CA Cn Cc 0 w (hk.pR (blk g [.bool true, .slice KA Kn Kc, .slice VA Vn Vc, .slice CA Cn Cc, .int .u32 0] 105) mE)) rfl rfl rfl rfl rfl (by kernel_rfl) ?_) | ((first | refine g_split rfl rfl tE (fun _ => ?_) (fun _ => ?_) | refine gk_cond rfl rfl tE (fun _ => ?_) (fun _ => ?_)) <;> (try first | (exfalso; omega; done) | (rename_i hx; exact absurd rfl hx) | (rename_i hx; cases hx; done)))))
  rename_i g2
  refine gk_lit g2 1 (enc := IE .u8) [(Kn : Int)] rfl (by decide) rfl (by first | ((repeat (first | with_reducible exact Upd.here _ | with_reducible apply Upd.there)); done) | ((repeat (first | exact Upd.here _ | apply Upd.there)); done) | fail) ?_
  refine gk_loop_sel (fun (q : Nat × Value × (List Int)) => match q with | (j, v, M) => j ≤ Kn ∧ M = [(Kn : Int)] ++ entsB (L.take j)) (fun (q : Nat × Value × (List Int)) => match q with | (j, v, M) => [(0, .pointer (some ⟨g, 0, none⟩)), (4, .int .i64 3), (5, .slice VA Vn Vc), (8, v), (57, .slice KA Kn Kc), (58, .int .i64 Kn), (59, .int .i64 j)]) (fun (q : Nat × Value × (List Int)) => match q with | (j, v, M) => [own 0 5 1 v (IE .u8) M]) (fun (q : Nat × Value × (List Int)) => match q with | (j, v, M) => [sl KA 3 KE (L.map (·.k)), sl VA 1 (IE .u32) (L.map (·.a))]) (fun (q : Nat × Value × (List Int)) => match q with | (j, v, M) => Kn - j) (0, .slice (some ⟨g2, 0, none⟩) 1 1, [(Kn : Int)]) rfl ⟨Nat.zero_le _, by simp [entsB]⟩ (by repeat (first | exact trivial | refine ⟨rfl, ?_⟩)) sA sS ?_
  rintro ⟨j, v, M⟩ hI
  replace hI : j ≤ Kn ∧ M = [(Kn : Int)] ++ entsB (L.take j) := hI
  change GK _ _ [(0, .pointer (some ⟨g, 0, none⟩)), (4, .int .i64 3), (5, .slice VA Vn Vc), (8, v), (57, .slice KA Kn Kc), (58, .int .i64 Kn), (59, .int .i64 j)] [own 0 5 1 v (IE .u8) M] [sl KA 3 KE (L.map (·.k)), sl VA 1 (IE .u32) (L.map (·.a))]
  obtain ⟨hj, hM⟩ := hI
  have hMl : M.length = 1 + 18 * j := by
    rw [hM, List.length_append, entsB_len, List.length_take, Nat.min_eq_left (by omega)]; rfl
  (repeat (refine gG ?_; try intro _))
  refine gk_cond rfl rfl (tells_tB _) (fun hlt => ?_) (fun hlt => ?_)
  · have hjL : j < L.length := by omega
    obtain ⟨y, hy⟩ : ∃ y, L[j]? = some y := ⟨L[j], List.getElem?_eq_getElem hjL⟩
    obtain ⟨hyk, hya⟩ := hbd y (List.mem_of_getElem? hy)
    refine gk_elem (enc := KE) (L := L.map (·.k)) j mE (by rw [List.length_map]; omega) (by decide) (fun b0 o0 y1 eA hy1 => ?_)
    subst eA
    obtain rfl : y.k = y1 := by
      rw [List.getElem?_map, hy] at hy1
      exact Option.some.inj hy1
    refine gk_elem (enc := IE .u32) (L := L.map (·.a)) j mE (by rw [List.length_map]; omega) (by decide) (fun b1 o1 y2 eA hy2 => ?_)
    subst eA
    obtain rfl : y.a = y2 := by
      rw [List.getElem?_map, hy] at hy2
      exact Option.some.inj hy2
    (repeat (refine gG ?_; try intro _))
    rename_i g5
    refine gk_any [0, 2] (Cut _ (fun v' : Value => [(0, .pointer (some ⟨g, 0, none⟩)), (4, .int .i64 3), (5, .slice (some ⟨b1, o1, none⟩) Vn Vc), (8, v'), (57, .slice (some ⟨b0, o0, none⟩) Kn Kc), (58, .int .i64 Kn), (59, .int .i64 j)]) (fun v' => [own 0 5 1 v' (IE .u8) (M ++ keyB y.k ++ le y.a 4)]) (fun _ => [sl (some ⟨b0, o0, none⟩) 3 KE (L.map (·.k)), sl (some ⟨b1, o1, none⟩) 1 (IE .u32) (L.map (·.a))])) rfl rfl (by kernel_rfl) ?_ (cut_k fun v' => ?_)
    · skip
      refine gb_take 0 rfl (by decide +kernel) rfl rfl (ys_ev (nw := true) hT rfl sI) sF ?_
      refine gb_take 1 rfl (by decide +kernel) rfl rfl (by first | exact ys_blk hT rfl rfl mE rfl rfl | exact ys_row hT rfl rfl mE rfl rfl | exact ys_row0 hT rfl rfl mE rfl rfl) sF ?_
      refine gb_take 3 rfl (by decide +kernel) rfl rfl (ys_ev (nw := true) hT rfl sI) sF ?_
      refine gb_take 4 rfl (by decide +kernel) rfl rfl (ys_ev (nw := true) hT rfl sI) sF ?_
      refine gb_take 5 rfl (by decide +kernel) rfl rfl (ys_ev (nw := true) hT rfl sI) sF ?_
      refine gb_take 6 rfl (by decide +kernel) rfl rfl (by first | exact ys_blk hT rfl rfl mE rfl rfl | exact ys_row hT rfl rfl mE rfl rfl | exact ys_row0 hT rfl rfl mE rfl rfl) sF ?_
      refine gb_take 7 rfl (by decide +kernel) rfl rfl (ys_ev (nw := true) hT rfl sI) sF ?_
      refine gb_only 2 (by decide +kernel) rfl rfl ?_
      refine mv_call_grow (fun w hk => kput_any 0 v M y.k w hyk (hk.pO (own 0 5 1 v (IE .u8) M) mE) (by omega) (Nat.zero_le _)) rfl rfl rfl rfl rfl (by kernel_rfl) (by intro _; first | ((repeat (first | with_reducible exact Upd.here _ | with_reducible apply Upd.there)); done) | ((repeat (first | exact Upd.here _ | apply Upd.there)); done) | fail) (fun v1 => ?_)
      refine ⟨sF, ?_⟩
      refine gb_only 8 (by decide +kernel) rfl rfl ?_
      refine mv_call_grow (fun w hk => Fix.put_any 0 v1 (M ++ keyB y.k) y.a 4 4 w rfl (by omega) (by omega) (hk.pO (own 0 5 1 v1 (IE .u8) (M ++ keyB y.k)) mE) (by simp only [List.length_append, keyB_len]; omega) (Nat.zero_le _)) rfl rfl rfl rfl rfl (by kernel_rfl) (by intro _; first | ((repeat (first | with_reducible exact Upd.here _ | with_reducible apply Upd.there)); done) | ((repeat (first | exact Upd.here _ | apply Upd.there)); done) | fail) (fun v2 => ?_)
      refine ⟨sF, ?_⟩
      refine gb_take 9 rfl (by decide +kernel) rfl rfl (ys_ev (nw := true) hT rfl sI) sF ?_
      refine gb_nil (by decide +kernel) ?_
      exact ⟨v2, (by repeat (first | exact trivial | refine ⟨rfl, ?_⟩)), sA, sS⟩
    · (repeat (refine gG ?_; try intro _))
      refine gk_again_sel rfl (j + 1, v', M ++ keyB y.k ++ le y.a 4) ⟨by omega, by rw [entsB_snoc hy, hM]; unfold entB; simp only [List.append_assoc]⟩ (by dsimp only; omega) (by repeat (first | exact trivial | refine ⟨rfl, ?_⟩)) sA sS
  · have hjn : j = L.length := by omega
    have hML : M = nodeB L := by rw [hM, hjn, List.take_length, hn]; rfl
    subst hML
    have hB := nodeB_isB L (by omega)
    have hl := nodeB_len L
    (repeat (refine gG ?_; try intro _))
    refine g_freeze _ (by intro _; first | ((repeat (first | with_reducible exact Upd.here _ | with_reducible apply Upd.there)); done) | ((repeat (first | exact Upd.here _ | apply Upd.there)); done) | fail) (fun A1 c1 hA hA1 hA2 hA3 => ?_)
    subst hA
    refine g_mv rfl ?_; refine mv_call_rt (fun w hk => pput_any 3 ⟨A1, (nodeB L).length, c1⟩ (nodeB L) w (by omega) (by omega) ⟨rfl, hA1, hA2, hA3⟩ (by omega) (hk.pO (sl A1 1 (IE .u8) (nodeB L)) mE) hB) rfl rfl rfl rfl rfl (by kernel_rfl) (fun _ => rfl) (fun u hu => ?_)
    (repeat (refine gG ?_; try intro _))
    refine gk_ret hT rfl rfl (.tmp rfl (.tmp rfl .nil)) (fun w' hk => ?_)
    exact Ret.mk ⟨u, Page.page 3 (nodeB L), 0⟩ (putI_ok (by unfold putC; rw [if_neg (by omega)]; rfl) rfl hu) rfl hk sA
end Go.Proofs.YtokhfkbbhdaghaaGreat.Nd

