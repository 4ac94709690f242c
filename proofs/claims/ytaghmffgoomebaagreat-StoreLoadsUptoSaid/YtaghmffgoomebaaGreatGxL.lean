/- node.Put. The walk by reckoned steps: rows that are written in place: copy, append where there is room, clear, append of zeros where there is none. The walk by reckoned steps: append of zeros where there is no room; slices.overlaps of two blocks. The walk by reckoned steps: loads at any place of a block; pointers to unlike blocks compared. The walk by reckoned steps: functions that have captured variables: made, and called. -/
import Derived.Test.YtaghmffgoomebaaGreatNd3
import Derived.Laws.CopyRow
import Derived.Laws.AppendOwn
import Derived.Lib.AppendZerosOnto
import Derived.Lib.Overlaps
import Derived.Laws.Externs
namespace Go.Proofs.YtaghmffgoomebaaGreat.Nd
open Go.RowKit Mem Gx Bytes
set_option linter.unusedVariables false
set_option linter.unusedSimpArgs false
set_option maxRecDepth 100000
set_option maxHeartbeats 4000000
/-- What node.Put hands back. -/
structure BS where
  s : SlV
  M : List Int
  c : Int
noncomputable def putC (L : List EntD) (lf : Bool) : Int := if L.length = 0 ∨ 6 < L.length then 10 else if (!lf && tB (∃ e, e ∈ L ∧ e.a = 0)) = true then 60 else 0
noncomputable def putM (L : List EntD) (lf : Bool) : List Int := if putC L lf = 0 then Page.page (if lf = true then 3 else 4) (nodeB L) else []
structure PutI (L : List EntD) (lf : Bool) (r : BS) : Prop where
  ok : r.s.Ok r.M.length
  c : r.c = putC L lf
  M : r.M = putM L lf
theorem putI_ok {L : List EntD} {lf : Bool} {s : SlV} {M : List Int} (h : putC L lf = 0) (hM : M = Page.page (if lf = true then 3 else 4) (nodeB L)) (hs : s.Ok M.length) : PutI L lf ⟨s, M, 0⟩ :=
  ⟨hs, h.symm, by show M = putM L lf; unfold putM; rw [if_pos h, hM]⟩
abbrev RetP (L : List EntD) (lf : Bool) (w : World) : Ending → World → Prop := Ret (PutI L lf) (fun r => .tuple #[r.s.v, .int .i64 r.c]) (fun r => [sl r.s.A 1 (IE .u8) r.M]) w
theorem nlen' (g : Nat) (lf : Bool) (KA : Option Addr) (Kn Kc : Nat) (VA : Option Addr) (Vn Vc : Nat) (CA : Option Addr) (Cn Cc : Nat) (a : Int) (w : World) (h : w.heap[g]? = some (.cells [.bool lf, .slice KA Kn Kc, .slice VA Vn Vc, .slice CA Cn Cc, .int .u32 a].toArray 109 (0, 0))) :
    Calls Tryz.prog 44 [.pointer (some ⟨g, 0, none⟩)].toArray w fun e w' => e = .returned (.int .i64 (Kn : Int)) ∧ Below w.heap.size w w' := nlen_any g [] lf ⟨KA, Kn, Kc⟩ ⟨VA, Vn, Vc⟩ ⟨CA, Cn, Cc⟩ a w h
theorem nput_leaf (d : NodeD) (L : List EntD) (w : World) (hd : IsLeaf L d) (h1 : 0 < L.length) (h6 : L.length ≤ 6) (hbd : ∀ e ∈ L, e.Bd) (hB0 : Rds w [blk d.g [.bool d.leaf, d.K.v, d.V.v, d.C.v, .int .u32 d.a] 109, sl d.K.A 3 KE d.Ks, sl d.V.A 1 (IE .u32) d.Vs]) :
    Calls Tryz.prog 70 [.pointer (some ⟨d.g, 0, none⟩)].toArray w (RetP L true w) := by
  obtain ⟨g, leaf, ⟨KA, Kn, Kc⟩, Ks, ⟨VA, Vn, Vc⟩, Vs, ⟨CA, Cn, Cc⟩, Cs, a⟩ := d
  obtain ⟨⟨hK, hV, hC⟩, e1, e2, e3, e4, e5⟩ := hd
  dsimp only at e1 e2 e3 e4
  subst e1 e2 e3 e4
  have hn : Kn = L.length := by have := hK.n; rw [List.length_map] at this; exact this
  have hVn : Vn = L.length := by have := hV.n; rw [List.length_map] at this; exact this
  have hB : Rds w [blk g [.bool true, .slice KA Kn Kc, .slice VA Vn Vc, .slice CA Cn Cc, .int .u32 a] 109, sl KA 3 KE (L.map (·.k)), sl VA 1 (IE .u32) (L.map (·.a))] := hB0
  clear hB0
  refine g_enter0 T [] [] [blk g [.bool true, .slice KA Kn Kc, .slice VA Vn Vc, .slice CA Cn Cc, .int .u32 a] 109, sl KA 3 KE (L.map (·.k)), sl VA 1 (IE .u32) (L.map (·.a))] Tryz.func70 rfl Tryz.ntmps70 rfl hB.kn ?_
  refine gk_rowR (g := g) mE ?_
  (repeat' (first | (refine gG ?_; try intro _) | (refine g_mv rfl ?_; first | refine mv_call_bel (fun w hk => nlen' g true KA Kn Kc VA Vn Vc CA Cn Cc a w (hk.pR (blk g [.bool true, .slice KA Kn Kc, .slice VA Vn Vc, .slice CA Cn Cc, .int .u32 a] 109) mE)) rfl rfl rfl rfl rfl (by kernel_rfl) ?_) | ((first | refine g_split rfl rfl tE (fun _ => ?_) (fun _ => ?_) | refine gk_cond rfl rfl tE (fun _ => ?_) (fun _ => ?_)) <;> (try first | (exfalso; omega; done) | (rename_i hx; exact absurd rfl hx) | (rename_i hx; cases hx; done)))))
  refine gk_drawn_at [0] rfl rfl (by kernel_rfl) ?_
  (repeat (first | refine ga_nil (by decide +kernel) ?_ | refine ga_take (by decide +kernel) rfl rfl (ys_ev (nw := true) hT rfl sI) sF ?_ | refine ga_skip (by decide +kernel) rfl rfl sF ?_ | refine ga_take (by decide +kernel) rfl rfl (ys_blk hT rfl rfl mE rfl rfl) sF ?_ | refine ga_take (by decide +kernel) rfl rfl (ys_row hT rfl rfl mE rfl rfl) sF ?_ | refine ga_take (by decide +kernel) rfl rfl (ys_row0 hT rfl rfl mE rfl rfl) sF ?_ | (refine ga_mv (by decide +kernel) rfl ?_; (first | (refine mv_box rfl rfl rfl rfl ?_; intro _) | (refine mv_alloc rfl hT rfl rfl ?_; intro _) | refine mv_store hT rfl rfl rfl rfl rfl rfl sO rfl ?_ | (refine mv_buildSlice rfl hT rfl rfl rfl rfl rfl rfl rfl rfl ?_; intro _)); refine ⟨sF, ?_⟩) | refine ga_take (by decide +kernel) rfl rfl (ys_eql rfl rfl rfl rfl rfl (by kernel_rfl)) sF ?_ | refine ga_take (by decide +kernel) rfl rfl (ys_neq rfl rfl rfl rfl rfl (by kernel_rfl)) sF ?_))
  (repeat' (first | (refine gG ?_; try intro _) | (refine g_mv rfl ?_; first | refine mv_call_bel (fun w hk => nlen' g true KA Kn Kc VA Vn Vc CA Cn Cc a w (hk.pR (blk g [.bool true, .slice KA Kn Kc, .slice VA Vn Vc, .slice CA Cn Cc, .int .u32 a] 109) mE)) rfl rfl rfl rfl rfl (by kernel_rfl) ?_) | ((first | refine g_split rfl rfl tE (fun _ => ?_) (fun _ => ?_) | refine gk_cond rfl rfl tE (fun _ => ?_) (fun _ => ?_)) <;> (try first | (exfalso; omega; done) | (rename_i hx; exact absurd rfl hx) | (rename_i hx; cases hx; done)))))
  rename_i g2
  refine gk_lit g2 1 (enc := IE .u8) [(Kn : Int)] rfl (by decide) rfl (by first | ((repeat (first | with_reducible exact Upd.here _ | with_reducible apply Upd.there)); done) | ((repeat (first | exact Upd.here _ | apply Upd.there)); done) | fail) ?_
  refine gk_loop_sel (fun (q : Nat × Value × (List Int)) => match q with | (j, v, M) => j ≤ Kn ∧ M = [(Kn : Int)] ++ entsB (L.take j)) (fun (q : Nat × Value × (List Int)) => match q with | (j, v, M) => [(0, .pointer (some ⟨g, 0, none⟩)), (4, .int .i64 3), (5, .slice VA Vn Vc), (8, v), (57, .slice KA Kn Kc), (58, .int .i64 Kn), (59, .int .i64 j)]) (fun (q : Nat × Value × (List Int)) => match q with | (j, v, M) => [own 0 5 1 v (IE .u8) M]) (fun (q : Nat × Value × (List Int)) => match q with | (j, v, M) => [sl KA 3 KE (L.map (·.k)), sl VA 1 (IE .u32) (L.map (·.a))]) (fun (q : Nat × Value × (List Int)) => match q with | (j, v, M) => Kn - j) (0, .slice (some ⟨g2, 0, none⟩) 1 1, [(Kn : Int)]) rfl ⟨Nat.zero_le _, by simp [entsB]⟩ fS sA sS ?_
  rintro ⟨j, v, M⟩ hI
  replace hI : j ≤ Kn ∧ M = [(Kn : Int)] ++ entsB (L.take j) := hI
  change GK _ _ [(0, .pointer (some ⟨g, 0, none⟩)), (4, .int .i64 3), (5, .slice VA Vn Vc), (8, v), (57, .slice KA Kn Kc), (58, .int .i64 Kn), (59, .int .i64 j)] [own 0 5 1 v (IE .u8) M] [sl KA 3 KE (L.map (·.k)), sl VA 1 (IE .u32) (L.map (·.a))]
  obtain ⟨hj, hM⟩ := hI
  have hMl : M.length = 1 + 18 * j := by
    rw [hM, List.length_append, entsB_len, List.length_take, Nat.min_eq_left (by omega)]; rfl
  (repeat (refine gG ?_; try intro _))
  refine gk_cond rfl rfl (tells_tB _) (fun hlt => ?_) (fun hlt => ?_)
  · have hjL : j < L.length := by omega
    obtain ⟨y, hy⟩ : ∃ y, L[j]? = some y := ⟨L[j], List.getElem?_eq_getElem hjL⟩
    obtain ⟨hyk, hya⟩ := hbd y (List.mem_of_getElem? hy)
    refine gk_elem (enc := KE) (L := L.map (·.k)) j mE (by rw [List.length_map]; omega) (by decide) (fun b0 o0 y1 eA hy1 => ?_)
    subst eA
    obtain rfl : y.k = y1 := by
      rw [List.getElem?_map, hy] at hy1
      exact Option.some.inj hy1
    refine gk_elem (enc := IE .u32) (L := L.map (·.a)) j mE (by rw [List.length_map]; omega) (by decide) (fun b1 o1 y2 eA hy2 => ?_)
    subst eA
    obtain rfl : y.a = y2 := by
      rw [List.getElem?_map, hy] at hy2
      exact Option.some.inj hy2
    (repeat (refine gG ?_; try intro _))
    rename_i g5
    refine gk_any [0, 2] (Cut _ (fun v' : Value => [(0, .pointer (some ⟨g, 0, none⟩)), (4, .int .i64 3), (5, .slice (some ⟨b1, o1, none⟩) Vn Vc), (8, v'), (57, .slice (some ⟨b0, o0, none⟩) Kn Kc), (58, .int .i64 Kn), (59, .int .i64 j)]) (fun v' => [own 0 5 1 v' (IE .u8) (M ++ keyB y.k ++ le y.a 4)]) (fun _ => [sl (some ⟨b0, o0, none⟩) 3 KE (L.map (·.k)), sl (some ⟨b1, o1, none⟩) 1 (IE .u32) (L.map (·.a))])) rfl rfl (by kernel_rfl) ?_ (cut_k fun v' => ?_)
    · skip
      refine gY hT 0 ?_
      refine gb_take 1 rfl (by decide +kernel) rfl rfl (by first | exact ys_blk hT rfl rfl mE rfl rfl | exact ys_row hT rfl rfl mE rfl rfl | exact ys_row0 hT rfl rfl mE rfl rfl) sF ?_
      refine gY hT 3 ?_
      refine gY hT 4 ?_
      refine gY hT 5 ?_
      refine gb_take 6 rfl (by decide +kernel) rfl rfl (by first | exact ys_blk hT rfl rfl mE rfl rfl | exact ys_row hT rfl rfl mE rfl rfl | exact ys_row0 hT rfl rfl mE rfl rfl) sF ?_
      refine gY hT 7 ?_
      refine gb_only 2 (by decide +kernel) rfl rfl ?_
      refine mv_call_grow (fun w hk => kput_any 0 v M y.k w hyk (hk.pO (own 0 5 1 v (IE .u8) M) mE) (by omega) (Nat.zero_le _)) rfl rfl rfl rfl rfl (by kernel_rfl) uD (fun v1 => ?_)
      refine ⟨sF, ?_⟩
      refine gb_only 8 (by decide +kernel) rfl rfl ?_
      refine mv_call_grow (fun w hk => Fix.put_any 0 v1 (M ++ keyB y.k) y.a 4 4 w rfl (by omega) (by omega) (hk.pO (own 0 5 1 v1 (IE .u8) (M ++ keyB y.k)) mE) (by simp only [List.length_append, keyB_len]; omega) (Nat.zero_le _)) rfl rfl rfl rfl rfl (by kernel_rfl) uD (fun v2 => ?_)
      refine ⟨sF, ?_⟩
      refine gY hT 9 ?_
      refine gb_nil (by decide +kernel) ?_
      exact ⟨v2, fS, sA, sS⟩
    · (repeat (refine gG ?_; try intro _))
      refine gk_again_sel rfl (j + 1, v', M ++ keyB y.k ++ le y.a 4) ⟨by omega, by rw [entsB_snoc hy, hM]; unfold entB; simp only [List.append_assoc]⟩ (by dsimp only; omega) fS sA sS
  · have hjn : j = L.length := by omega
    have hML : M = nodeB L := by rw [hM, hjn, List.take_length, hn]; rfl
    subst hML
    have hB := nodeB_isB L (by omega)
    have hl := nodeB_len L
    (repeat (refine gG ?_; try intro _))
    refine g_freeze _ uD (fun A1 c1 hA hA1 hA2 hA3 => ?_)
    subst hA
    refine g_mv rfl ?_; refine mv_call_rt (fun w hk => pput_any 3 ⟨A1, (nodeB L).length, c1⟩ (nodeB L) w (by omega) (by omega) ⟨rfl, hA1, hA2, hA3⟩ (by omega) (hk.pO (sl A1 1 (IE .u8) (nodeB L)) mE) hB) rfl rfl rfl rfl rfl (by kernel_rfl) (fun _ => rfl) (fun u hu => ?_)
    (repeat (refine gG ?_; try intro _))
    refine gk_ret hT rfl rfl (.tmp rfl (.tmp rfl .nil)) (fun w' hk => ?_)
    exact Ret.mk ⟨u, Page.page 3 (nodeB L), 0⟩ (putI_ok (by unfold putC; rw [if_neg (by omega)]; rfl) rfl hu) rfl hk sA
end Go.Proofs.YtaghmffgoomebaaGreat.Nd
namespace Go.Proofs.YtaghmffgoomebaaGreat.Gx
open Go.RowKit Mem
set_option linter.unusedVariables false
set_option linter.unusedSimpArgs false
/-- A list of cells, some of them written. -/
def lay (cs : List Value) (o : Nat) (vs : List Value) : List Value := cs.take o ++ vs ++ cs.drop (o + vs.length)
section
variable {α : Type} (sz : Nat) (enc : α → Nat → Value)
theorem flatF_length (L : List α) : (flatF sz enc L).length = L.length * sz := by
  induction L with
  | nil => simp [flatF]
  | cons x r ih => show (encF enc x 0 sz ++ flatF sz enc r).length = _; rw [List.length_append, ih, encF_len, List.length_cons, Nat.succ_mul]; omega
theorem flatF_append (L M : List α) : flatF sz enc (L ++ M) = flatF sz enc L ++ flatF sz enc M := by
  induction L with
  | nil => rfl
  | cons x r ih => show encF enc x 0 sz ++ flatF sz enc (r ++ M) = (encF enc x 0 sz ++ flatF sz enc r) ++ flatF sz enc M; rw [ih, List.append_assoc]
theorem flat_LF [Inhabited α] (hsz : 0 < sz) (L : List α) : flat sz (LF enc L) L.length = flatF sz enc L := by
  apply List.ext_getElem?
  intro j
  by_cases hj : j < L.length * sz
  · have h1 : j / sz < L.length := Nat.div_lt_of_lt_mul (by rw [Nat.mul_comm]; exact hj)
    have hy : L[j / sz]? = some L[j / sz] := List.getElem?_eq_getElem h1
    rw [flat_get _ _ _ _ hj, LF_at hy]
    have := flatF_get sz enc L (j / sz) (j % sz) _ hy (Nat.mod_lt _ hsz)
    rw [Nat.mul_comm, Nat.div_add_mod] at this
    rw [this]
  · rw [List.getElem?_eq_none (by rw [flat_length]; omega), List.getElem?_eq_none (by rw [flatF_length]; omega)]
end
section
variable {X : Cx} {f : Fr} {O O' R : List Fact} {ks k : List KI} {ops lo : List Oper} {E : List Nat} {w0 w w' : World} {o : Oper} {N : Fr → List Fact → List Fact → Prop} {g T : Nat} {cs : List Value}
/-- A row's cells are others now. -/
theorem Kn.setRow {cs' : List Value} (h : Kn E w0 w O R) (hu : Upd (blk g cs T) (blk g cs' T) O O') : Kn E w0 (w.setRow g cs'.toArray) O' R := by
  have hb : w.heap[g]? = some (.cells cs.toArray T (0, 0)) := h.pO _ hu.mem
  have hsz : (w.setRow g cs'.toArray).heap.size = w.heap.size := by simp [World.setRow]
  refine h.upd hu rfl rfl rfl (by omega) (fun b hb hne => setRow_other w g b _ hne) (setRow_heap w g _ _ T (0, 0) hb) (fun b hb => ⟨.inl hb, ?_⟩)
  rw [hsz]
  exact h.ltO _ hu.mem b hb
/-- What is one's own, as the cells of its block. -/
theorem own_open {α : Type} [Inhabited α] {base e sz n c g : Nat} {enc : α → Nat → Value} {L : List α} (hsz : 0 < sz) (h : OwnL w base e sz (.slice (some ⟨g, 0, none⟩) n c) enc L) :
    ∃ rest : List Value, w.heap[g]? = some (.cells (flatF sz enc L ++ rest).toArray e (0, 0)) ∧ (flatF sz enc L ++ rest).length = c * sz ∧ n = L.length ∧ n ≤ c ∧ c ≤ maxLen ∧ base ≤ g := by
  obtain ⟨h1, h2⟩ := h
  rcases h2 with ⟨h3, _⟩ | ⟨g', cap, cur, hv, hb, hg, hn, hm, hs, ht⟩
  · cases h3
  · injection hv with e1 e2 e3
    injection e1 with e1
    injection e1 with e1
    subst e1 e2 e3
    rw [flat_LF sz enc hsz] at ht
    refine ⟨cur.toList.drop (L.length * sz), ?_, ?_, rfl, hn, hm, hb⟩
    · rw [← ht, List.take_append_drop, Array.toArray_toList]; exact hg
    · rw [← ht, List.take_append_drop]; simpa using hs
theorem own_shut {α : Type} [Inhabited α] {base e sz n c g : Nat} {enc : α → Nat → Value} {L : List α} {cs : List Value} (hsz : 0 < sz) (hg : w.heap[g]? = some (.cells cs.toArray e (0, 0))) (hl : cs.length = c * sz) (hn : n = L.length) (hnc : n ≤ c) (hm : c ≤ maxLen) (hb : base ≤ g) (ht : cs.take (n * sz) = flatF sz enc L) :
    OwnL w base e sz (.slice (some ⟨g, 0, none⟩) n c) enc L := by
  subst hn
  refine ⟨by rw [flat_length], .inr ⟨g, c, cs.toArray, rfl, hb, hg, hnc, hm, by simpa using hl, ?_⟩⟩
  rw [flat_LF sz enc hsz]
  simpa using ht
theorem Kn.own_blk {O'' : List Value → List Fact} {α : Type} [Inhabited α] {base e sz n c : Nat} {enc : α → Nat → Value} {L : List α} (hsz : 0 < sz) (h : Kn E w0 w O R) (hu : ∀ cs, Upd (own base e sz (.slice (some ⟨g, 0, none⟩) n c) enc L) (blk g cs e) O (O'' cs)) :
    ∃ rest : List Value, Kn E w0 w (O'' (flatF sz enc L ++ rest)) R ∧ (flatF sz enc L ++ rest).length = c * sz ∧ n = L.length ∧ n ≤ c ∧ c ≤ maxLen ∧ base ≤ g := by
  obtain ⟨rest, h1, h2, h3, h4, h5, h6⟩ := own_open hsz (h.pO _ (hu []).mem)
  refine ⟨rest, h.upd (hu _) rfl rfl rfl (Nat.le_refl _) (fun _ _ _ => rfl) h1 (fun b hb => ?_), h2, h3, h4, h5, h6⟩
  have hbg : b = g := hb
  subst hbg
  exact ⟨.inl rfl, h.ltO _ (hu []).mem b rfl⟩
theorem Kn.blk_own {α : Type} [Inhabited α] {base e sz n c : Nat} {enc : α → Nat → Value} {L : List α} {cs : List Value} (hsz : 0 < sz) (h : Kn E w0 w O R) (hl : cs.length = c * sz) (hn : n = L.length) (hnc : n ≤ c) (hm : c ≤ maxLen) (hb : base ≤ g) (ht : cs.take (n * sz) = flatF sz enc L) (hu : Upd (blk g cs e) (own base e sz (.slice (some ⟨g, 0, none⟩) n c) enc L) O O') : Kn E w0 w O' R := by
  refine h.upd hu rfl rfl rfl (Nat.le_refl _) (fun _ _ _ => rfl) (own_shut hsz (h.pO _ hu.mem) hl hn hnc hm hb ht) (fun b hb => ?_)
  have hbg : g = b := by
    have h1 : (Value.slice (some ⟨g, 0, none⟩) n c).ownBlock = some b := hb
    simpa [Value.ownBlock] using h1
  subst hbg
  exact ⟨.inl rfl, h.ltO _ hu.mem g rfl⟩
theorem g_own_blk {α : Type} [Inhabited α] {base e sz n c : Nat} {enc : α → Nat → Value} {L : List α} {OO : List Value → List Fact} (hsz : 0 < sz) (hu : ∀ cs, Upd (own base e sz (.slice (some ⟨g, 0, none⟩) n c) enc L) (blk g cs e) O (OO cs))
    (hg : ∀ rest : List Value, (flatF sz enc L ++ rest).length = c * sz → n = L.length → n ≤ c → c ≤ maxLen → base ≤ g → G X ops lo k f (OO (flatF sz enc L ++ rest)) R) : G X ops lo k f O R := .mk fun a w hr hk => by
  obtain ⟨rest, h1, h2, h3, h4, h5, h6⟩ := Kn.own_blk (O'' := OO) hsz hk hu
  exact (hg rest h2 h3 h4 h5 h6).out a w hr h1
theorem gk_blk_own {α : Type} [Inhabited α] {base e sz n c : Nat} {enc : α → Nat → Value} {cs : List Value} (L : List α) (hsz : 0 < sz) (hu : Upd (blk g cs e) (own base e sz (.slice (some ⟨g, 0, none⟩) n c) enc L) O O') (hl : cs.length = c * sz) (hn : n = L.length) (hnc : n ≤ c) (hm : c ≤ maxLen) (hb : base ≤ g) (ht : cs.take (n * sz) = flatF sz enc L)
    (hg : GK X ks f O' R) : GK X ks f O R := .mk fun a w hr hk => hg.out a w hr (Kn.blk_own hsz hk hl hn hnc hm hb ht hu)
theorem g_blk_own {α : Type} [Inhabited α] {base e sz n c : Nat} {enc : α → Nat → Value} {cs : List Value} (L : List α) (hsz : 0 < sz) (hu : Upd (blk g cs e) (own base e sz (.slice (some ⟨g, 0, none⟩) n c) enc L) O O') (hl : cs.length = c * sz) (hn : n = L.length) (hnc : n ≤ c) (hm : c ≤ maxLen) (hb : base ≤ g) (ht : cs.take (n * sz) = flatF sz enc L)
    (hg : G X ops lo k f O' R) : G X ops lo k f O R := .mk fun a w hr hk => hg.out a w hr (Kn.blk_own hsz hk hl hn hnc hm hb ht hu)
end
end Go.Proofs.YtaghmffgoomebaaGreat.Gx
namespace Go.Proofs.YtaghmffgoomebaaGreat.Gx
open Go.RowKit Mem
set_option linter.unusedVariables false
set_option linter.unusedSimpArgs false
section
variable {X : Cx} {f : Fr} {O O' R : List Fact} {ks k : List KI} {ops lo : List Oper} {E : List Nat} {w0 w w' : World} {o : Oper} {N : Fr → List Fact → List Fact → Prop} {g T : Nat} {cs : List Value}
theorem shA_0 {A : Option Addr} {m s : Nat} : shA A 0 m s = A := by
  unfold shA
  split
  · rfl
  · cases A with
    | none => rfl
    | some a => rw [Option.map_some, Nat.zero_mul]; unfold Addr.add; rw [if_pos rfl]
theorem mv_storeL (hT : TabOk X.P X.T) {ty : Nat} {ad vl : Operand} {off t sz : Nat} {d : TD} {z vs : List Value} {v : Value} (ho : o.op = .store ty ad vl)
    (hx : look X.n f ad = some (.pointer (some ⟨g, off, none⟩))) (hv : look X.n f vl = some v) (hty : tfind X.T ty = some ⟨t, d, sz, z⟩) (hc : cellsN v sz (agg? d) = some vs) (h1 : vs.all oneB = true) (hu : Upd (blk g cs T) (blk g (lay cs off vs) T) O O') (hfit : off + vs.length ≤ cs.length)
    (hd : o.dst = none) (hg : N f O' R) : Mv X f O R o N := fun a w hr hk K Q hK => by
  unfold Oper.wp
  have hty' := tfind_ok hT hty
  have e1 := hty'.1
  simp only at e1
  subst e1
  obtain ⟨c1, c2, _⟩ := cellsN_eq hc
  have hb : w.heap[g]? = some (.cells cs.toArray T (0, 0)) := hk.pO _ hu.mem
  have r1 := run_storeCells_at X.P g off T vs 0 cs.toArray w hb (by simpa using hfit) (fun x hx' => oneB_eq (List.all_eq_true.1 h1 x hx'))
  have hsz : v.cells.size = sz := by rw [← Array.length_toList, c1, c2]
  have : (execOp a.eval o).run X.P w = .ok .skip (w.setRow g (lay cs off vs).toArray) := by
    simp only [Nat.add_zero] at r1
    simp [execOp, ho, hr.look hx, hr.look hv, Instr.storeAt, Instr.sureAddr, storeVar, run_sizeOf hty'.2.sz w, hsz, c1, r1, lay]
  rw [this]
  exact hK _ _ _ _ _ hg (hr.put0 hd _) (Kn.setRow hk hu)
theorem lay_app (A zs vs : List Value) {o : Nat} (ho : o = A.length) : lay (A ++ zs) o vs = A ++ vs ++ zs.drop vs.length := by
  subst ho
  unfold lay
  rw [List.take_left, ← List.drop_drop, List.drop_left]
theorem own_at0 {α : Type} [Inhabited α] {base e sz : Nat} {v : Value} {enc : α → Nat → Value} {L : List α} (h : OwnL w base e sz v enc L) (hL : 0 < L.length) : ∃ b c, v = .slice (some ⟨b, 0, none⟩) L.length c ∧ L.length ≤ c ∧ c ≤ maxLen := by
  rcases h.2 with ⟨_, h2⟩ | ⟨g, cap, cur, hv, hb, hg, hn, hm, _⟩
  · omega
  · exact ⟨g, cap, hv, hn, hm⟩
theorem gk_own0 {α : Type} [Inhabited α] {base e sz : Nat} (v : Value) {enc : α → Nat → Value} {L : List α} (hm : own base e sz v enc L ∈ O) (hL : 0 < L.length)
    (hg : ∀ b c, v = .slice (some ⟨b, 0, none⟩) L.length c → L.length ≤ c → c ≤ maxLen → GK X ks f O R) : GK X ks f O R := .mk fun a w hr hk => by
  obtain ⟨b, c, h1, h2, h3⟩ := own_at0 (hk.pO _ hm : OwnL w base e sz v enc L) hL
  exact (hg b c h1 h2 h3).out a w hr hk
end
end Go.Proofs.YtaghmffgoomebaaGreat.Gx
namespace Go.Proofs.YtaghmffgoomebaaGreat.Gx
open Go.RowKit Mem
set_option linter.unusedVariables false
set_option linter.unusedSimpArgs false
section
variable {X : Cx} {f : Fr} {O R : List Fact} {ks k : List KI} {ops rest : List Oper} {o : Oper} {S : List Fact} {g Tg : Nat} {cs : List Value}
theorem ys_load_cs (hT : TabOk X.P X.T) {ty : Nat} {x : Operand} {off t sz : Nat} {d : TD} {z : List Value} {v : Value} (vs : List Value) (ho : o.op = .load ty x) (hx : look X.n f x = some (.pointer (some ⟨g, off, none⟩)))
    (hm : blk g cs Tg ∈ S) (hvs : ∀ i v, vs[i]? = some v → cs[off + i]? = some v) (hty : tfind X.T ty = some ⟨t, d, sz, z⟩) (hv : loadV (agg? d) sz vs 0 = some v) : Ys X S f o v := fun a w hr hS => by
  have hb : w.heap[g]? = some (.cells cs.toArray Tg (0, 0)) := hS _ hm
  have hty' := tfind_ok hT hty
  have e1 := hty'.1
  simp only at e1
  subst e1
  have := run_loadVar_at hty'.2.d hty'.2.sz w g off vs (fun i u hu => by rw [cell_of_row w g _ cs.toArray Tg (0, 0) hb]; simpa using hvs i u hu) hv
  rw [Nat.add_zero] at this
  simp [execOp, ho, hr.look hx, Instr.loadAt, Instr.sureAddr, this]
end
end Go.Proofs.YtaghmffgoomebaaGreat.Gx
namespace Go.Proofs.YtaghmffgoomebaaGreat.Gx
open Go.RowKit Mem
set_option linter.unusedVariables false
set_option linter.unusedSimpArgs false
section
variable {X : Cx} {f : Fr} {O R : List Fact} {ks k : List KI} {ops rest : List Oper} {o : Oper} {N : Fr → List Fact → List Fact → Prop}
/-- A function made of another one and captured variables. -/
theorem ys_makeFunc {S : List Fact} {fid : Nat} {cs : Array Operand} {vs : List Value} (ho : o.op = .makeFunc (.func fid) #[] cs) (hv : lookL X.n f cs.toList = some vs) : Ys X S f o (.func (.func fid) #[] vs.toArray) := fun ac w hr _ => by
  have e1 : cs.map ac.eval = vs.toArray := by apply Array.ext'; simpa using lookL_eq hr hv
  simp [execOp, ho, Instr.makeFunc, e1]
end
end Go.Proofs.YtaghmffgoomebaaGreat.Gx
