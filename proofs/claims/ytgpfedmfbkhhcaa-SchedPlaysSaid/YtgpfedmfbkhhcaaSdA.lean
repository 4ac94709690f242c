/- Law 58: rules, call by call. -/
import Derived.Test.YtgpfedmfbkhhcaaSd7
import Derived.Test.YtgpfedmfbkhhcaaSd9
namespace Go.Proofs.Ytgpfedmfbkhhcaa.Sd
open Go.RowKit Mem Gx Hp Du Dv OpA
set_option linter.unusedVariables false
set_option linter.unusedSimpArgs false
set_option maxRecDepth 100000
set_option maxHeartbeats 4000000
/-- A call. -/
structure StD where
  k : Int
  i : Int
  r : RuD
  u : Int
instance : Inhabited StD := ⟨⟨0, 0, default, 0⟩⟩
def StE (x : StD) : Nat → Value
  | 0 => .int .i64 x.k
  | 1 => .int .i64 x.i
  | 2 => .int .u64 x.r.f
  | 3 => .int .u64 x.r.e
  | 4 => .int .i64 x.r.o.k
  | 5 => .int .i64 x.r.o.v
  | 6 => .int .i64 x.r.o.i
  | 7 => .int .i64 x.r.o.b
  | 8 => .int .i64 x.r.o.c
  | 9 => .int .u64 x.r.o.p
  | 10 => x.r.o.a.v
  | 11 => x.r.o.m.v
  | _ => .int .u64 x.u
/-- What is known of a call that is handed in. -/
structure StD.Bd (x : StD) : Prop where
  f0 : 0 ≤ x.r.f
  f9 : x.r.f ≤ 18446744073709551615
  e0 : 0 ≤ x.r.e
  e9 : x.r.e ≤ 18446744073709551615
  u0 : 0 ≤ x.u
  o : x.r.o.Ok
structure JnD where
  rA : Option Addr
  rc : Nat
  s : QuS
  now : Int
  PL : List RuD
  S : List Tim
  lA : Option Addr
  lc : Nat
  L : List LrD
theorem joinR {X : Cx} {ops rest : List Oper} {k : List KI} {ι : Type} (P : ι → Prop) (F : ι → Fr) (OO RR : ι → List Fact) {q : Prop} (r : Later (∀ i, P i → G X ops rest k (F i) (OO i) (RR i)) → q) (g : ∀ i, P i → G X ops rest k (F i) (OO i) (RR i)) : q := r ⟨g⟩
theorem sdi0 : SdI 0 ⟨none, .slice none 0 0, []⟩ [] [] [] := ⟨z_ok', ⟨fun i x h => by simp at h, fun y h => (by cases h), List.nodup_nil, .nil⟩, rfl, Nat.le_refl _, Nat.le_refl _, fun j x y h => by simp at h, fun y h => by cases h⟩
theorem der_nilL {F : LrD → Fact} {l : List Fact} : Der l (allF ([] : List LrD) F) := .all fun x hx => by cases hx
theorem der_snocL {L : List LrD} {F : OpD → Fact} {r : RuD} {t : Int} : Der [allF L (fun x => F x.r.o), F r.o] (allF (L ++ [⟨r, t, true⟩]) (fun x => F x.r.o)) := .all fun x hx => by
  rcases List.mem_append.1 hx with h | h
  · exact Der.elem (L := L) (F := fun x : LrD => F x.r.o) (.mem (.head _)) h
  · obtain rfl := List.mem_singleton.1 h
    exact .mem (.tail _ (.head _))
theorem der_same {L L' : List LrD} {F : OpD → Fact} (h : ∀ x, x ∈ L' → ∃ y, y ∈ L ∧ y.r = x.r) : Der [allF L (fun x => F x.r.o)] (allF L' (fun x => F x.r.o)) := .all fun x hx => by
  obtain ⟨y, hy, e⟩ := h x hx
  rw [← e]
  exact Der.elem (L := L) (F := fun x : LrD => F x.r.o) (.mem (.head _)) hy
theorem SameR.mem {L L' : List LrD} (h : SameR L L') : ∀ x, x ∈ L' → ∃ y, y ∈ L ∧ y.r = x.r := fun x hx => by
  obtain ⟨j, hj⟩ := List.getElem?_of_mem hx
  obtain ⟨y, hy, e⟩ := h.at hj
  exact ⟨y, List.mem_of_getElem? hy, e⟩
theorem set_mem {L : List LrD} {i : Nat} {z x : LrD} (hz : L[i]? = some z) {t : Int} {b : Bool} : ∀ x, x ∈ L.set i ⟨z.r, t, b⟩ → ∃ y, y ∈ L ∧ y.r = x.r := fun x hx => by
  rcases List.mem_or_eq_of_mem_set hx with e | e
  · exact ⟨x, e, rfl⟩
  · exact ⟨z, List.mem_of_getElem? hz, by rw [e]⟩
theorem pnext_nil (g n c : Nat) (A : Option Addr) (nw : Value) (s : QuS) (w : World) (hn : n ≤ 1000) (hs : QuOk s.mo s.L []) (hK : KOk' [] n) (h : Rd1 w (quF g (.slice A n c) nw s)) :
    Calls Try.prog 13 [.pointer (some ⟨g, 0, none⟩)].toArray w fun e w' => e = .returned (.tuple #[.int .u64 0, .bool false]) ∧ Below w.heap.size w w' := pnext_any g n c A nw s [] w hn hs hK h
theorem pnext_cons (g n c : Nat) (A : Option Addr) (nw : Value) (s : QuS) (y : Tim) (S : List Tim) (w : World) (hn : n ≤ 1000) (hs : QuOk s.mo s.L (y :: S)) (hK : KOk' (y :: S) n) (h : Rd1 w (quF g (.slice A n c) nw s)) :
    Calls Try.prog 13 [.pointer (some ⟨g, 0, none⟩)].toArray w fun e w' => e = .returned (.tuple #[.int .u64 y.t, .bool true]) ∧ Below w.heap.size w w' := pnext_any g n c A nw s (y :: S) w hn hs hK h
theorem calls_b {P : Program} {fid : FuncId} {args : Array Value} {w : World} {b c : Bool} (hb : b = c) (h : Calls P fid args w fun e w' => e = .returned (.bool b) ∧ Below w.heap.size w w') : Calls P fid args w fun e w' => e = .returned (.bool c) ∧ Below w.heap.size w w' := by rwa [hb] at h
theorem rright_b (o : OpD) (w : World) (ho : o.Ok) (ha : Rd1 w (faF o)) (hm : Rd1 w (fmF o)) (h9 : o.M.length ≤ 100) {b : Bool} (hb : rrightB o = b) : Calls Try.prog 12 [o.val].toArray w fun e w' => e = .returned (.bool b) ∧ Below w.heap.size w w' := by
  have h := rright_any o w ho ⟨ha.1, hm.1⟩ (by omega)
  rwa [hb] at h
theorem law58_any (A : Option Addr) (n c : Nat) (ST : List StD) (most : Int) (w : World) (hn : n = ST.length) (hb : ∀ x, x ∈ ST → x.Bd) (hs : Rd1 w (sl A 13 StE ST)) (ha : Rd1 w (allF ST (fun x : StD => faF x.r.o))) (hm : Rd1 w (allF ST (fun x : StD => fmF x.r.o))) :
    Calls Try.prog 3 [.slice A n c, .int .i64 most].toArray w fun e w' => e = .returned (.bool true) ∧ Below w.heap.size w w' := by
  refine g_enter0 T [] [] [sl A 13 StE ST, allF ST (fun x : StD => faF x.r.o), allF ST (fun x : StD => fmF x.r.o)] Try.func3 rfl Try.ntmps3 rfl (Rds.cons hs (.cons ha (.cons hm .nil))).kn ?_
  by_cases h40 : 40 < n
  · (repeat' (first | (refine gG ?_; try intro _) | ((first | refine g_split rfl rfl tE (fun _ => ?_) (fun _ => ?_) | refine gk_cond rfl rfl tE (fun _ => ?_) (fun _ => ?_)) <;> (try first | (exfalso; omega; done) | (rename_i hx; exact absurd rfl hx) | (rename_i hx; cases hx; done)))))
    all_goals
      refine gk_ret hT rfl rfl (.tmp rfl .nil) (fun w' hk => ?_)
      exact ⟨rfl, hk.toBelow⟩
  by_cases h30 : 30 < most
  · (repeat' (first | (refine gG ?_; try intro _) | ((first | refine g_split rfl rfl tE (fun _ => ?_) (fun _ => ?_) | refine gk_cond rfl rfl tE (fun _ => ?_) (fun _ => ?_)) <;> (try first | (exfalso; omega; done) | (rename_i hx; exact absurd rfl hx) | (rename_i hx; cases hx; done)))))
    all_goals
      refine gk_ret hT rfl rfl (.tmp rfl .nil) (fun w' hk => ?_)
      exact ⟨rfl, hk.toBelow⟩
  (repeat' (first | (refine gG ?_; try intro _) | ((first | refine g_split rfl rfl tE (fun _ => ?_) (fun _ => ?_) | refine gk_cond rfl rfl tE (fun _ => ?_) (fun _ => ?_)) <;> (try first | (exfalso; omega; done) | (rename_i hx; exact absurd rfl hx) | (rename_i hx; cases hx; done)))))
  rename_i g
  refine gk_own 0 87 3 TE ?_
  refine gk_pack (quL g (.slice none 0 0) (.int .u64 0) ⟨none, .slice none 0 0, []⟩) [] (sA : SelAll [blk g [.slice none 0 0, .slice none 0 0, .map none, .int .u64 0] 33, own 0 87 3 (.slice none 0 0) TE ([] : List Tim)] _) ?_
  refine gk_own 0 40 10 RuE ?_
  refine gk_pack (plL g (⟨.slice none 0 0, ⟨none, .slice none 0 0, []⟩, 0, []⟩ : PlD)) [] sA ?_
  refine gk_derO [] [plF g (⟨.slice none 0 0, ⟨none, .slice none 0 0, []⟩, 0, []⟩ : PlD)] (φ := allF ([]) (fun r : RuD => fmF r.o)) der_nilR sA ?_
  refine gk_derO [] [allF ([]) (fun r : RuD => fmF r.o), plF g (⟨.slice none 0 0, ⟨none, .slice none 0 0, []⟩, 0, []⟩ : PlD)] (φ := allF ([]) (fun r : RuD => faF r.o)) der_nilR sA ?_
  refine gk_nilR none 12 LrE ?_
  refine gk_der [] (φ := allF ([]) (fun x : LrD => faF x.r.o)) der_nilL sS ?_
  refine gk_der [] (φ := allF ([]) (fun x : LrD => fmF x.r.o)) der_nilL sS ?_
  refine gk_loop_sel (fun (q : Nat × (Option Addr) × Nat × QuS × Int × (List RuD) × (List Tim) × (Option Addr) × Nat × (List LrD)) => match q with | (i, rA, rc, s, now, PL, S, lA, lc, L) => (i ≤ n ∧ SdI i s PL S L ∧ (SlV.mk lA L.length lc).Ok L.length)) (fun (q : Nat × (Option Addr) × Nat × QuS × Int × (List RuD) × (List Tim) × (Option Addr) × Nat × (List LrD)) => match q with | (i, rA, rc, s, now, PL, S, lA, lc, L) => [(0, .slice A n c), (1, .int .i64 most), (5, .pointer (some ⟨g, 0, none⟩)), (6, .slice lA (L).length lc), (7, .int .u64 now), (8, .int .i64 (i : Int))]) (fun (q : Nat × (Option Addr) × Nat × QuS × Int × (List RuD) × (List Tim) × (Option Addr) × Nat × (List LrD)) => match q with | (i, rA, rc, s, now, PL, S, lA, lc, L) => [plF g ⟨.slice rA (PL).length rc, s, now, PL⟩, allF (PL) (fun r : RuD => faF r.o), allF (PL) (fun r : RuD => fmF r.o)]) (fun (q : Nat × (Option Addr) × Nat × QuS × Int × (List RuD) × (List Tim) × (Option Addr) × Nat × (List LrD)) => match q with | (i, rA, rc, s, now, PL, S, lA, lc, L) => [sl lA 12 LrE (L), allF (L) (fun x : LrD => faF x.r.o), allF (L) (fun x : LrD => fmF x.r.o), sl A 13 StE ST, allF ST (fun x : StD => faF x.r.o), allF ST (fun x : StD => fmF x.r.o)]) (fun (q : Nat × (Option Addr) × Nat × QuS × Int × (List RuD) × (List Tim) × (Option Addr) × Nat × (List LrD)) => match q with | (i, rA, rc, s, now, PL, S, lA, lc, L) => n - i) (0, none, 0, ⟨none, .slice none 0 0, []⟩, 0, [], [], none, 0, []) rfl ⟨Nat.zero_le _, sdi0, ⟨rfl, Nat.le_refl _, Nat.zero_le _, fun _ => rfl⟩⟩ (by repeat (first | exact trivial | refine ⟨rfl, ?_⟩)) sA sS ?_
  rintro ⟨i, rA, rc, s, now, PL, S, lA, lc, L⟩ hI
  replace hI : (i ≤ n ∧ SdI i s PL S L ∧ (SlV.mk lA L.length lc).Ok L.length) := hI
  change GK _ _ [(0, .slice A n c), (1, .int .i64 most), (5, .pointer (some ⟨g, 0, none⟩)), (6, .slice lA (L).length lc), (7, .int .u64 now), (8, .int .i64 (i : Int))] [plF g ⟨.slice rA (PL).length rc, s, now, PL⟩, allF (PL) (fun r : RuD => faF r.o), allF (PL) (fun r : RuD => fmF r.o)] [sl lA 12 LrE (L), allF (L) (fun x : LrD => faF x.r.o), allF (L) (fun x : LrD => fmF x.r.o), sl A 13 StE ST, allF ST (fun x : StD => faF x.r.o), allF ST (fun x : StD => fmF x.r.o)]
  obtain ⟨hi, hI, hok⟩ := hI
  have hLb := hI.b
  have hLn := hI.len
  have hLs := hI.ls
  by_cases hlt : i < n
  · obtain ⟨x, hx⟩ : ∃ b, ST[i]? = some b := ⟨ST[i], List.getElem?_eq_getElem (by omega)⟩
    refine gk_elem (enc := StE) (L := ST) i mE (by omega) (by decide) (fun sb so y eA hy => ?_)
    subst eA
    obtain rfl : x = y := by rw [hx] at hy; exact Option.some.inj hy
    have hxm := List.mem_of_getElem? hx
    have hxb := hb x hxm
    have d1 : Der [allF ST (fun x : StD => faF x.r.o)] (faF x.r.o) := Der.elem (L := ST) (F := fun x : StD => faF x.r.o) (x := x) (Der.mem (.head _)) hxm
    have d2 : Der [allF ST (fun x : StD => fmF x.r.o)] (fmF x.r.o) := Der.elem (L := ST) (F := fun x : StD => fmF x.r.o) (x := x) (Der.mem (.head _)) hxm
    refine gk_der [allF ST (fun x : StD => faF x.r.o)] d1 sS ?_
    refine gk_der [allF ST (fun x : StD => fmF x.r.o)] d2 sS ?_
    obtain ⟨xk, xi, r, xu⟩ := x
    obtain ⟨b1, b2, b3, b4, b5, b6⟩ := hxb
    dsimp only at b1 b2 b3 b4 b5 b6 ⊢
    by_cases hg : 300 < r.o.D.length ∨ 100 < r.o.M.length
    · have hgr := fun w => calls_b (tB_true hg) (great_any r.o w b6)
      (repeat' (first | (refine gG ?_; try intro _) | (refine g_mv rfl ?_; first | refine mv_call_bel (fun w hk => hgr w) rfl rfl rfl rfl rfl (by kernel_rfl) ?_) | ((first | refine g_split rfl rfl tE (fun _ => ?_) (fun _ => ?_) | refine gk_cond rfl rfl tE (fun _ => ?_) (fun _ => ?_)) <;> (try first | (exfalso; omega; done) | (rename_i hx; exact absurd rfl hx) | (rename_i hx; cases hx; done)))))
      refine gk_ret hT rfl rfl (.tmp rfl .nil) (fun w' hk => ?_)
      exact ⟨rfl, hk.toBelow⟩
    have hro : RuOk r := ⟨b3, b4, b6, by omega, by omega⟩
    have hgr := fun w => calls_b (tB_false hg) (great_any r.o w b6)
    (repeat' (first | (refine gG ?_; try intro _) | ((first | refine g_split rfl rfl tE (fun _ => ?_) (fun _ => ?_) | refine gk_cond rfl rfl tE (fun _ => ?_) (fun _ => ?_)) <;> (try first | (exfalso; omega; done) | (rename_i hx; exact absurd rfl hx) | (rename_i hx; cases hx; done)))))
    rename_i g9
    refine g_mv rfl ?_; refine mv_call_bel (fun w hk => hgr w) rfl rfl rfl rfl rfl (by kernel_rfl) ?_
    (repeat (refine gG ?_; try intro _))
    refine gk_sel (f' := [(0, .slice (some ⟨sb, so, none⟩) n c), (1, .int .i64 most), (5, .pointer (some ⟨g, 0, none⟩)), (6, .slice lA (L).length lc), (7, .int .u64 now), (8, .int .i64 (i : Int)), (9, .pointer (some ⟨g9, 0, none⟩)), (42, .int .i64 xk), (87, .bool (tB (xk = 1)))]) (O' := [blk g9 [.int .i64 xk, .int .i64 xi, .int .u64 r.f, .int .u64 r.e, .int .i64 r.o.k, .int .i64 r.o.v, .int .i64 r.o.i, .int .i64 r.o.b, .int .i64 r.o.c, .int .u64 r.o.p, r.o.a.v, r.o.m.v, .int .u64 xu] 42, plF g ⟨.slice rA (PL).length rc, s, now, PL⟩, allF (PL) (fun r : RuD => faF r.o), allF (PL) (fun r : RuD => fmF r.o)]) (R' := [faF r.o, fmF r.o, sl lA 12 LrE (L), allF (L) (fun x : LrD => faF x.r.o), allF (L) (fun x : LrD => fmF x.r.o), sl (some ⟨sb, so, none⟩) 13 StE ST, allF ST (fun x : StD => faF x.r.o), allF ST (fun x : StD => fmF x.r.o)]) (by repeat (first | exact trivial | refine ⟨rfl, ?_⟩)) sA sS ?_
    apply joinR (fun q : JnD => SdI (i + 1) q.s q.PL q.S q.L ∧ (SlV.mk q.lA q.L.length q.lc).Ok q.L.length) (fun q => [(0, .slice (some ⟨sb, so, none⟩) n c), (1, .int .i64 most), (5, .pointer (some ⟨g, 0, none⟩)), (6, .slice q.lA (q.L).length q.lc), (7, .int .u64 q.now), (8, .int .i64 (i : Int)), (161, .pointer (some ⟨g, 0, none⟩))]) (fun q => [plF g ⟨.slice q.rA q.PL.length q.rc, q.s, q.now, q.PL⟩, allF (q.PL) (fun r : RuD => faF r.o), allF (q.PL) (fun r : RuD => fmF r.o)]) (fun q => [sl q.lA 12 LrE (q.L), allF (q.L) (fun x : LrD => faF x.r.o), allF (q.L) (fun x : LrD => fmF x.r.o), sl (some ⟨sb, so, none⟩) 13 StE ST, allF ST (fun x : StD => faF x.r.o), allF ST (fun x : StD => fmF x.r.o)])
    case r =>
      intro J
      by_cases kd : xk ≠ 1 ∧ xk ≠ 2 ∧ xk ≠ 3
      · have kd1 := kd.1
        have kd2 := kd.2.1
        have kd3 := kd.2.2
        cases hr : rrightB r.o with
        | false =>
          (repeat' (first | (refine gG ?_; try intro _) | (refine g_mv rfl ?_; first | refine mv_call_bel (fun w hk => padd_bad g ⟨.slice rA PL.length rc, s, now, PL⟩ r w b6 (hk.rR (φ := fmF r.o) mE) (by omega) (.inl hr) (hk.rO (φ := plF g ⟨.slice rA (PL).length rc, s, now, PL⟩) mE)) rfl rfl rfl rfl rfl (by kernel_rfl) ?_ | refine mv_call_bel (fun w hk => rright_b r.o w b6 (hk.rR (φ := faF r.o) mE) (hk.rR (φ := fmF r.o) mE) (by omega) hr) rfl rfl rfl rfl rfl (by kernel_rfl) ?_) | ((first | refine g_split rfl rfl tE (fun _ => ?_) (fun _ => ?_) | refine gk_cond rfl rfl tE (fun _ => ?_) (fun _ => ?_)) <;> (try first | (exfalso; omega; done) | (rename_i hx; exact absurd rfl hx) | (rename_i hx; cases hx; done)))))
          have hJ := J.out ⟨rA, rc, s, now, PL, S, lA, lc, L⟩ ⟨hI.same, hok⟩
          dsimp only at hJ
          refine g_wk (by repeat (first | exact trivial | refine ⟨rfl, ?_⟩)) sA sS hJ
        | true =>
          by_cases hf : r.f < now
          · (repeat' (first | (refine gG ?_; try intro _) | (refine g_mv rfl ?_; first | refine mv_call_bel (fun w hk => padd_bad g ⟨.slice rA PL.length rc, s, now, PL⟩ r w b6 (hk.rR (φ := fmF r.o) mE) (by omega) (.inr hf) (hk.rO (φ := plF g ⟨.slice rA (PL).length rc, s, now, PL⟩) mE)) rfl rfl rfl rfl rfl (by kernel_rfl) ?_ | refine mv_call_bel (fun w hk => rright_b r.o w b6 (hk.rR (φ := faF r.o) mE) (hk.rR (φ := fmF r.o) mE) (by omega) hr) rfl rfl rfl rfl rfl (by kernel_rfl) ?_) | ((first | refine g_split rfl rfl tE (fun _ => ?_) (fun _ => ?_) | refine gk_cond rfl rfl tE (fun _ => ?_) (fun _ => ?_)) <;> (try first | (exfalso; omega; done) | (rename_i hx; exact absurd rfl hx) | (rename_i hx; cases hx; done)))))
            have hJ := J.out ⟨rA, rc, s, now, PL, S, lA, lc, L⟩ ⟨hI.same, hok⟩
            dsimp only at hJ
            refine g_wk (by repeat (first | exact trivial | refine ⟨rfl, ?_⟩)) sA sS hJ
          · as_aux_lemma =>
              (repeat' (first | (refine gG ?_; try intro _) | ((first | refine g_split rfl rfl tE (fun _ => ?_) (fun _ => ?_) | refine gk_cond rfl rfl tE (fun _ => ?_) (fun _ => ?_)) <;> (try first | (exfalso; omega; done) | (rename_i hx; exact absurd rfl hx) | (rename_i hx; cases hx; done)))))
              refine g_mv rfl (mv_call_mod (φ := plF g ⟨.slice rA (PL).length rc, s, now, PL⟩) (ψ := fun q : PlD × OpD => packF [quF g q.1.ru (.int .u64 q.1.now) q.1.s, own 0 40 10 q.1.ru RuE q.1.L, faF q.2, fmF q.2]) (fun w hk => by exact padd_ok g ⟨.slice rA PL.length rc, s, now, PL⟩ S r w b6 (hk.rR (φ := faF r.o) mE) (hk.rR (φ := fmF r.o) mE) (by omega) (by omega) (by dsimp only; omega) (by omega) hI.q (fun b hb => ⟨hk.disR _ mE _ mE b hb, hk.disR _ mE _ mE b hb⟩) hr (by dsimp only; omega) (hk.rO (φ := plF g ⟨.slice rA (PL).length rc, s, now, PL⟩) mE)) rfl rfl rfl rfl rfl (by kernel_rfl) (by intro _; first | ((repeat (first | with_reducible exact Upd.here _ | with_reducible apply Upd.there)); done) | ((repeat (first | exact Upd.here _ | apply Upd.there)); done) | fail) (fun q hq => ?_))
              obtain ⟨⟨ru1, s1, now1, L1⟩, p⟩ := q
              obtain ⟨h1, h2, h3, h4⟩ := hq
              dsimp only at h1 h2 h3 h4
              subst h2
              subst h3
              refine g_say 47 (.tuple #[.int .i64 (PL.length : Int), .int .i64 0]) rfl rfl ?_
              refine g_unpack (l := [quF g ru1 (.int .u64 now1) s1, own 0 40 10 ru1 RuE (PL ++ [(⟨r.f, r.e, p⟩ : RuD)]), faF p, fmF p]) (by repeat (first | with_reducible exact Sel.here | with_reducible apply Sel.there)) ?_
              refine g_ownv ru1 mE (fun A1 c1 hv _ _ _ => ?_)
              subst hv
              refine g_derO [allF (PL) (fun r : RuD => faF r.o), faF p] [quF g (.slice A1 (PL ++ [(⟨r.f, r.e, p⟩ : RuD)]).length c1) (.int .u64 now1) s1, own 0 40 10 (.slice A1 (PL ++ [(⟨r.f, r.e, p⟩ : RuD)]).length c1) RuE (PL ++ [(⟨r.f, r.e, p⟩ : RuD)]), fmF p, allF (PL) (fun r : RuD => fmF r.o), blk g9 [.int .i64 xk, .int .i64 xi, .int .u64 r.f, .int .u64 r.e, .int .i64 r.o.k, .int .i64 r.o.v, .int .i64 r.o.i, .int .i64 r.o.b, .int .i64 r.o.c, .int .u64 r.o.p, r.o.a.v, r.o.m.v, .int .u64 xu] 42] (φ := allF (PL ++ [(⟨r.f, r.e, p⟩ : RuD)]) (fun r : RuD => faF r.o)) der_snocR sA ?_
              refine g_derO [allF (PL) (fun r : RuD => fmF r.o), fmF p] [allF (PL ++ [(⟨r.f, r.e, p⟩ : RuD)]) (fun r : RuD => faF r.o), quF g (.slice A1 (PL ++ [(⟨r.f, r.e, p⟩ : RuD)]).length c1) (.int .u64 now1) s1, own 0 40 10 (.slice A1 (PL ++ [(⟨r.f, r.e, p⟩ : RuD)]).length c1) RuE (PL ++ [(⟨r.f, r.e, p⟩ : RuD)]), blk g9 [.int .i64 xk, .int .i64 xi, .int .u64 r.f, .int .u64 r.e, .int .i64 r.o.k, .int .i64 r.o.v, .int .i64 r.o.i, .int .i64 r.o.b, .int .i64 r.o.c, .int .u64 r.o.p, r.o.a.v, r.o.m.v, .int .u64 xu] 42] (φ := allF (PL ++ [(⟨r.f, r.e, p⟩ : RuD)]) (fun r : RuD => fmF r.o)) der_snocM sA ?_
              refine g_pack (plL g ⟨.slice A1 (PL ++ [(⟨r.f, r.e, p⟩ : RuD)]).length c1, s1, now1, PL ++ [(⟨r.f, r.e, p⟩ : RuD)]⟩) [allF (PL ++ [(⟨r.f, r.e, p⟩ : RuD)]) (fun r : RuD => faF r.o), allF (PL ++ [(⟨r.f, r.e, p⟩ : RuD)]) (fun r : RuD => fmF r.o), blk g9 [.int .i64 xk, .int .i64 xi, .int .u64 r.f, .int .u64 r.e, .int .i64 r.o.k, .int .i64 r.o.v, .int .i64 r.o.i, .int .i64 r.o.b, .int .i64 r.o.c, .int .u64 r.o.p, r.o.a.v, r.o.m.v, .int .u64 xu] 42] sA ?_
              have hI2 := hI.add hro b1 b2 h4 h1
              (repeat' (first | (refine gG ?_; try intro _) | (refine g_mv rfl ?_; first | refine mv_call_bel (fun w hk => rright_b r.o w b6 (hk.rR (φ := faF r.o) mE) (hk.rR (φ := fmF r.o) mE) (by omega) hr) rfl rfl rfl rfl rfl (by kernel_rfl) ?_) | ((first | refine g_split rfl rfl tE (fun _ => ?_) (fun _ => ?_) | refine gk_cond rfl rfl tE (fun _ => ?_) (fun _ => ?_)) <;> (try first | (exfalso; omega; done) | (rename_i hx; exact absurd rfl hx) | (rename_i hx; cases hx; done)))))
              refine gk_sel (f' := [(0, .slice (some ⟨sb, so, none⟩) n c), (1, .int .i64 most), (5, .pointer (some ⟨g, 0, none⟩)), (6, .slice lA (L).length lc), (7, .int .u64 now1), (8, .int .i64 (i : Int)), (9, .pointer (some ⟨g9, 0, none⟩))]) (O' := [blk g9 [.int .i64 xk, .int .i64 xi, .int .u64 r.f, .int .u64 r.e, .int .i64 r.o.k, .int .i64 r.o.v, .int .i64 r.o.i, .int .i64 r.o.b, .int .i64 r.o.c, .int .u64 r.o.p, r.o.a.v, r.o.m.v, .int .u64 xu] 42, plF g ⟨.slice A1 (PL ++ [(⟨r.f, r.e, p⟩ : RuD)]).length c1, s1, now1, PL ++ [(⟨r.f, r.e, p⟩ : RuD)]⟩, allF (PL ++ [(⟨r.f, r.e, p⟩ : RuD)]) (fun r : RuD => faF r.o), allF (PL ++ [(⟨r.f, r.e, p⟩ : RuD)]) (fun r : RuD => fmF r.o)]) (R' := [faF r.o, fmF r.o, sl lA 12 LrE (L), allF (L) (fun x : LrD => faF x.r.o), allF (L) (fun x : LrD => fmF x.r.o), sl (some ⟨sb, so, none⟩) 13 StE ST, allF ST (fun x : StD => faF x.r.o), allF ST (fun x : StD => fmF x.r.o)]) (by repeat (first | exact trivial | refine ⟨rfl, ?_⟩)) sA sS ?_
              refine gk_any [0, 1, 2, 3, 4, 5, 6, 7, 8, 9, 10, 11] (Cut _ (fun v : Value => [(0, .slice (some ⟨sb, so, none⟩) n c), (1, .int .i64 most), (5, .pointer (some ⟨g, 0, none⟩)), (6, v), (7, .int .u64 now1), (8, .int .i64 (i : Int))]) (fun v => [own 0 50 12 v LrE (L ++ [(⟨r, r.f, true⟩ : LrD)]), plF g ⟨.slice A1 (PL ++ [(⟨r.f, r.e, p⟩ : RuD)]).length c1, s1, now1, PL ++ [(⟨r.f, r.e, p⟩ : RuD)]⟩, allF (PL ++ [(⟨r.f, r.e, p⟩ : RuD)]) (fun r : RuD => faF r.o), allF (PL ++ [(⟨r.f, r.e, p⟩ : RuD)]) (fun r : RuD => fmF r.o)]) (fun _ => [faF r.o, fmF r.o, sl lA 12 LrE (L), allF (L) (fun x : LrD => faF x.r.o), allF (L) (fun x : LrD => fmF x.r.o), sl (some ⟨sb, so, none⟩) 13 StE ST, allF ST (fun x : StD => faF x.r.o), allF ST (fun x : StD => fmF x.r.o)])) rfl rfl (by kernel_rfl) ?_ (cut_k fun v => ?_)
              · skip
                refine gb_take 1 rfl (by decide +kernel) rfl rfl (ys_ev (nw := true) hT rfl sI) sF ?_
                refine gb_take 3 rfl (by decide +kernel) rfl rfl (ys_ev (nw := true) hT rfl sI) sF ?_
                refine gb_take 4 rfl (by decide +kernel) rfl rfl (by first | exact ys_blk hT rfl rfl mE rfl rfl | exact ys_row hT rfl rfl mE rfl rfl | exact ys_row0 hT rfl rfl mE rfl rfl) sF ?_
                refine gb_take 5 rfl (by decide +kernel) rfl rfl (ys_ev (nw := true) hT rfl sI) sF ?_
                refine gb_take 6 rfl (by decide +kernel) rfl rfl (ys_ev (nw := true) hT rfl sI) sF ?_
                refine gb_take 7 rfl (by decide +kernel) rfl rfl (by first | exact ys_blk hT rfl rfl mE rfl rfl | exact ys_row hT rfl rfl mE rfl rfl | exact ys_row0 hT rfl rfl mE rfl rfl) sF ?_
                refine gb_take 8 rfl (by decide +kernel) rfl rfl (ys_ev (nw := true) hT rfl sI) sF ?_
                refine gb_all (by decide +kernel) ?_
                refine gball_yes rfl rfl ?_ ?_
                · (refine mv_empty 12 LrE rfl hT rfl rfl rfl rfl rfl ?_; intro g1)
                  refine ⟨sF, ?_⟩
                  refine gb_all (by decide +kernel) ?_
                  refine gball_not (by decide +kernel) ?_
                  refine gball_not (by decide +kernel) ?_
                  refine gball_yes rfl rfl ?_ ?_
                  · (refine mv_append (L := []) rfl L rfl rfl rfl rfl elt_Lr (by intro _; first | ((repeat (first | with_reducible exact Upd.here _ | with_reducible apply Upd.there)); done) | ((repeat (first | exact Upd.here _ | apply Upd.there)); done) | fail) (src_R mE) (by have := hok.c; dsimp only at this; omega) oneLr (by simp only [maxLen, List.length_append, List.length_cons, List.length_nil]; omega) (by simp only [List.length_append, List.length_cons, List.length_nil]; omega) (Nat.zero_le _) ?_; intro v1)
                    refine ⟨sF, ?_⟩
                    refine gb_only 9 (by decide +kernel) rfl rfl ?_
                    (refine mv_buildSlice (len := 1) rfl hT rfl rfl rfl rfl rfl rfl rfl rfl ?_; intro g6)
                    refine ⟨sF, ?_⟩
                    refine gb_only 10 (by decide +kernel) rfl rfl ?_
                    (refine mv_append (L := L) rfl [(⟨r, r.f, true⟩ : LrD)] rfl rfl rfl rfl elt_Lr (by intro _; first | ((repeat (first | with_reducible exact Upd.here _ | with_reducible apply Upd.there)); done) | ((repeat (first | exact Upd.here _ | apply Upd.there)); done) | fail) (src_blk mE rfl) rfl oneLr (by simp only [maxLen, List.length_append, List.length_cons, List.length_nil]; omega) (by simp only [List.length_append, List.length_cons, List.length_nil]; omega) (Nat.zero_le _) ?_; intro v2)
                    refine ⟨sF, ?_⟩
                    refine gb_take 11 rfl (by decide +kernel) rfl rfl (ys_ev (nw := true) hT rfl sI) sF ?_
                    refine gb_nil (by decide +kernel) ?_
                    exact ⟨_, (by repeat (first | exact trivial | refine ⟨rfl, ?_⟩)), sA, sS⟩
                  refine gball_not (by decide +kernel) ?_
                  refine gball_not (by decide +kernel) ?_
                  refine gball_not (by decide +kernel) ?_
                  refine gball_not (by decide +kernel) ?_
                  refine gball_not (by decide +kernel) ?_
                  refine gball_not (by decide +kernel) ?_
                  refine gball_yes rfl rfl ?_ ?_
                  · (refine mv_buildSlice (len := 1) rfl hT rfl rfl rfl rfl rfl rfl rfl rfl ?_; intro g6)
                    refine ⟨sF, ?_⟩
                    refine gb_only 2 (by decide +kernel) rfl rfl ?_
                    (refine mv_append (L := []) rfl L rfl rfl rfl rfl elt_Lr (by intro _; first | ((repeat (first | with_reducible exact Upd.here _ | with_reducible apply Upd.there)); done) | ((repeat (first | exact Upd.here _ | apply Upd.there)); done) | fail) (src_R mE) (by have := hok.c; dsimp only at this; omega) oneLr (by simp only [maxLen, List.length_append, List.length_cons, List.length_nil]; omega) (by simp only [List.length_append, List.length_cons, List.length_nil]; omega) (Nat.zero_le _) ?_; intro v1)
                    refine ⟨sF, ?_⟩
                    refine gb_only 10 (by decide +kernel) rfl rfl ?_
                    (refine mv_append (L := L) rfl [(⟨r, r.f, true⟩ : LrD)] rfl rfl rfl rfl elt_Lr (by intro _; first | ((repeat (first | with_reducible exact Upd.here _ | with_reducible apply Upd.there)); done) | ((repeat (first | exact Upd.here _ | apply Upd.there)); done) | fail) (src_blk mE rfl) rfl oneLr (by simp only [maxLen, List.length_append, List.length_cons, List.length_nil]; omega) (by simp only [List.length_append, List.length_cons, List.length_nil]; omega) (Nat.zero_le _) ?_; intro v2)
                    refine ⟨sF, ?_⟩
                    refine gb_take 11 rfl (by decide +kernel) rfl rfl (ys_ev (nw := true) hT rfl sI) sF ?_
                    refine gb_nil (by decide +kernel) ?_
                    exact ⟨_, (by repeat (first | exact trivial | refine ⟨rfl, ?_⟩)), sA, sS⟩
                  refine gball_not (by decide +kernel) ?_
                  refine gball_not (by decide +kernel) ?_
                  exact gball_end (by decide +kernel)
                refine gball_not (by decide +kernel) ?_
                refine gball_not (by decide +kernel) ?_
                refine gball_not (by decide +kernel) ?_
                refine gball_not (by decide +kernel) ?_
                refine gball_not (by decide +kernel) ?_
                refine gball_not (by decide +kernel) ?_
                refine gball_not (by decide +kernel) ?_
                refine gball_not (by decide +kernel) ?_
                refine gball_yes rfl rfl ?_ ?_
                · (refine mv_buildSlice (len := 1) rfl hT rfl rfl rfl rfl rfl rfl rfl rfl ?_; intro g6)
                  refine ⟨sF, ?_⟩
                  refine gb_only 0 (by decide +kernel) rfl rfl ?_
                  (refine mv_empty 12 LrE rfl hT rfl rfl rfl rfl rfl ?_; intro g1)
                  refine ⟨sF, ?_⟩
                  refine gb_only 2 (by decide +kernel) rfl rfl ?_
                  (refine mv_append (L := []) rfl L rfl rfl rfl rfl elt_Lr (by intro _; first | ((repeat (first | with_reducible exact Upd.here _ | with_reducible apply Upd.there)); done) | ((repeat (first | exact Upd.here _ | apply Upd.there)); done) | fail) (src_R mE) (by have := hok.c; dsimp only at this; omega) oneLr (by simp only [maxLen, List.length_append, List.length_cons, List.length_nil]; omega) (by simp only [List.length_append, List.length_cons, List.length_nil]; omega) (Nat.zero_le _) ?_; intro v1)
                  refine ⟨sF, ?_⟩
                  refine gb_only 10 (by decide +kernel) rfl rfl ?_
                  (refine mv_append (L := L) rfl [(⟨r, r.f, true⟩ : LrD)] rfl rfl rfl rfl elt_Lr (by intro _; first | ((repeat (first | with_reducible exact Upd.here _ | with_reducible apply Upd.there)); done) | ((repeat (first | exact Upd.here _ | apply Upd.there)); done) | fail) (src_blk mE rfl) rfl oneLr (by simp only [maxLen, List.length_append, List.length_cons, List.length_nil]; omega) (by simp only [List.length_append, List.length_cons, List.length_nil]; omega) (Nat.zero_le _) ?_; intro v2)
                  refine ⟨sF, ?_⟩
                  refine gb_take 11 rfl (by decide +kernel) rfl rfl (ys_ev (nw := true) hT rfl sI) sF ?_
                  refine gb_nil (by decide +kernel) ?_
                  exact ⟨_, (by repeat (first | exact trivial | refine ⟨rfl, ?_⟩)), sA, sS⟩
                refine gball_not (by decide +kernel) ?_
                refine gball_not (by decide +kernel) ?_
                exact gball_end (by decide +kernel)
              refine gk_freeze _ (by intro _; first | ((repeat (first | with_reducible exact Upd.here _ | with_reducible apply Upd.there)); done) | ((repeat (first | exact Upd.here _ | apply Upd.there)); done) | fail) (fun A4 c4 hA4 hA41 hA42 hA43 => ?_); subst hA4
              refine gk_share (φ := sl A4 12 LrE (L ++ [(⟨r, r.f, true⟩ : LrD)])) (by repeat (first | with_reducible exact Sel.here | with_reducible apply Sel.there)) ?_
              refine gk_der [allF (L) (fun x : LrD => faF x.r.o), faF r.o] (φ := allF (L ++ [(⟨r, r.f, true⟩ : LrD)]) (fun x : LrD => faF x.r.o)) (der_snocL (F := faF)) sS ?_
              refine gk_der [allF (L) (fun x : LrD => fmF x.r.o), fmF r.o] (φ := allF (L ++ [(⟨r, r.f, true⟩ : LrD)]) (fun x : LrD => fmF x.r.o)) (der_snocL (F := fmF)) sS ?_
              (repeat (refine gG ?_; try intro _))
              have hJ := J.out ⟨A1, c1, s1, now1, PL ++ [(⟨r.f, r.e, p⟩ : RuD)], _, A4, c4, L ++ [(⟨r, r.f, true⟩ : LrD)]⟩ ⟨hI2, ⟨rfl, hA41, hA42, hA43⟩⟩
              dsimp only at hJ
              refine g_wk (by repeat (first | exact trivial | refine ⟨rfl, ?_⟩)) sA sS hJ
      by_cases k3 : xk = 3
      · subst k3
        by_cases h0 : xi < 0
        · as_aux_lemma =>
            have hn0 : (0, xi) ∉ S.map Tim.key := fun h => by have := ((hI.rel.due xi).1 h).1; omega
            refine gk_unpack (l := [quF g (.slice rA PL.length rc) (.int .u64 now) s, own 0 40 10 (.slice rA PL.length rc) RuE PL]) (by repeat (first | with_reducible exact Sel.here | with_reducible apply Sel.there)) ?_
            (repeat' (first | (refine gG ?_; try intro _) | ((first | refine g_split rfl rfl tE (fun _ => ?_) (fun _ => ?_) | refine gk_cond rfl rfl tE (fun _ => ?_) (fun _ => ?_)) <;> (try first | (exfalso; omega; done) | (rename_i hx; exact absurd rfl hx) | (rename_i hx; cases hx; done)))))
            refine g_mv rfl (mv_call_mod (φ := quF g (.slice rA PL.length rc) (.int .u64 now) s) (ψ := fun q : QuS × Bool => quF g (.slice rA PL.length rc) (.int .u64 now) q.1) (fun w hk => by exact pstop_any g (.slice rA PL.length rc) (.int .u64 now) s S xi w hI.q (hk.rO (φ := quF g (.slice rA PL.length rc) (.int .u64 now) s) mE)) rfl rfl rfl rfl rfl (by kernel_rfl) (by intro _; first | ((repeat (first | with_reducible exact Upd.here _ | with_reducible apply Upd.there)); done) | ((repeat (first | exact Upd.here _ | apply Upd.there)); done) | fail) (fun q hq => ?_))
            obtain ⟨s2, bb⟩ := q
            obtain ⟨hq1, hq2⟩ := hq
            dsimp only at hq1 hq2
            rw [tB_false hn0] at hq2
            subst hq2
            have hI2 := hI.nostop (q := s2) hn0 hq1
            (repeat' (first | (refine gG ?_; try intro _) | ((first | refine g_split rfl rfl tE (fun _ => ?_) (fun _ => ?_) | refine gk_cond rfl rfl tE (fun _ => ?_) (fun _ => ?_)) <;> (try first | (exfalso; omega; done) | (rename_i hx; exact absurd rfl hx) | (rename_i hx; cases hx; done)))))
            refine g_pack (plL g ⟨.slice rA PL.length rc, s2, now, PL⟩) [allF (PL) (fun r : RuD => faF r.o), allF (PL) (fun r : RuD => fmF r.o)] sA ?_
            have hJ := J.out ⟨rA, rc, s2, now, PL, S, lA, lc, L⟩ ⟨hI2, hok⟩
            dsimp only at hJ
            refine g_wk (by repeat (first | exact trivial | refine ⟨rfl, ?_⟩)) sA sS hJ
        obtain ⟨I, rfl⟩ := Int.eq_ofNat_of_zero_le (Int.not_lt.1 h0)
        by_cases hIL : L.length ≤ I
        · as_aux_lemma =>
            have hn0 : (0, (I : Int)) ∉ S.map Tim.key := fun h => by
              obtain ⟨_, z, hz, _⟩ := (hI.rel.due (I : Int)).1 h
              have := (List.getElem?_eq_some_iff.1 hz).1
              omega
            refine gk_unpack (l := [quF g (.slice rA PL.length rc) (.int .u64 now) s, own 0 40 10 (.slice rA PL.length rc) RuE PL]) (by repeat (first | with_reducible exact Sel.here | with_reducible apply Sel.there)) ?_
            (repeat' (first | (refine gG ?_; try intro _) | ((first | refine g_split rfl rfl tE (fun _ => ?_) (fun _ => ?_) | refine gk_cond rfl rfl tE (fun _ => ?_) (fun _ => ?_)) <;> (try first | (exfalso; omega; done) | (rename_i hx; exact absurd rfl hx) | (rename_i hx; cases hx; done)))))
            refine g_mv rfl (mv_call_mod (φ := quF g (.slice rA PL.length rc) (.int .u64 now) s) (ψ := fun q : QuS × Bool => quF g (.slice rA PL.length rc) (.int .u64 now) q.1) (fun w hk => by exact pstop_any g (.slice rA PL.length rc) (.int .u64 now) s S (I : Int) w hI.q (hk.rO (φ := quF g (.slice rA PL.length rc) (.int .u64 now) s) mE)) rfl rfl rfl rfl rfl (by kernel_rfl) (by intro _; first | ((repeat (first | with_reducible exact Upd.here _ | with_reducible apply Upd.there)); done) | ((repeat (first | exact Upd.here _ | apply Upd.there)); done) | fail) (fun q hq => ?_))
            obtain ⟨s2, bb⟩ := q
            obtain ⟨hq1, hq2⟩ := hq
            dsimp only at hq1 hq2
            rw [tB_false hn0] at hq2
            subst hq2
            have hI2 := hI.nostop (q := s2) hn0 hq1
            (repeat' (first | (refine gG ?_; try intro _) | ((first | refine g_split rfl rfl tE (fun _ => ?_) (fun _ => ?_) | refine gk_cond rfl rfl tE (fun _ => ?_) (fun _ => ?_)) <;> (try first | (exfalso; omega; done) | (rename_i hx; exact absurd rfl hx) | (rename_i hx; cases hx; done)))))
            refine g_pack (plL g ⟨.slice rA PL.length rc, s2, now, PL⟩) [allF (PL) (fun r : RuD => faF r.o), allF (PL) (fun r : RuD => fmF r.o)] sA ?_
            have hJ := J.out ⟨rA, rc, s2, now, PL, S, lA, lc, L⟩ ⟨hI2, hok⟩
            dsimp only at hJ
            refine g_wk (by repeat (first | exact trivial | refine ⟨rfl, ?_⟩)) sA sS hJ
        have hiL : I < L.length := by omega
        obtain ⟨z, hz⟩ : ∃ b, L[I]? = some b := ⟨L[I], List.getElem?_eq_getElem hiL⟩
        refine gk_elem (A := lA) (enc := LrE) (L := L) I mE hiL (by decide) (fun zb zo z' eA hz' => ?_)
        subst eA
        obtain rfl : z = z' := by rw [hz] at hz'; exact Option.some.inj hz'
        cases hd : z.due with
        | false =>
          as_aux_lemma =>
            have hn0 : (0, (I : Int)) ∉ S.map Tim.key := fun h => by
              obtain ⟨_, z2, hz2, h2⟩ := (hI.rel.due (I : Int)).1 h
              rw [Int.toNat_natCast, hz] at hz2
              obtain rfl := Option.some.inj hz2
              rw [hd] at h2
              cases h2
            refine gk_unpack (l := [quF g (.slice rA PL.length rc) (.int .u64 now) s, own 0 40 10 (.slice rA PL.length rc) RuE PL]) (by repeat (first | with_reducible exact Sel.here | with_reducible apply Sel.there)) ?_
            (repeat' (first | (refine gG ?_; try intro _) | ((first | refine g_split rfl rfl tE (fun _ => ?_) (fun _ => ?_) | refine gk_cond rfl rfl tE (fun _ => ?_) (fun _ => ?_)) <;> (try first | (exfalso; omega; done) | (rename_i hx; exact absurd rfl hx) | (rename_i hx; cases hx; done)))))
            refine gk_say 132 (.bool false) rfl (congrArg Value.bool hd) ?_
            refine gk_say 11 (.bool false) rfl (congrArg Value.bool hd) ?_
            (repeat' (first | (refine gG ?_; try intro _) | ((first | refine g_split rfl rfl tE (fun _ => ?_) (fun _ => ?_) | refine gk_cond rfl rfl tE (fun _ => ?_) (fun _ => ?_)) <;> (try first | (exfalso; omega; done) | (rename_i hx; exact absurd rfl hx) | (rename_i hx; cases hx; done)))))
            refine g_mv rfl (mv_call_mod (φ := quF g (.slice rA PL.length rc) (.int .u64 now) s) (ψ := fun q : QuS × Bool => quF g (.slice rA PL.length rc) (.int .u64 now) q.1) (fun w hk => by exact pstop_any g (.slice rA PL.length rc) (.int .u64 now) s S (I : Int) w hI.q (hk.rO (φ := quF g (.slice rA PL.length rc) (.int .u64 now) s) mE)) rfl rfl rfl rfl rfl (by kernel_rfl) (by intro _; first | ((repeat (first | with_reducible exact Upd.here _ | with_reducible apply Upd.there)); done) | ((repeat (first | exact Upd.here _ | apply Upd.there)); done) | fail) (fun q hq => ?_))
            obtain ⟨s2, bb⟩ := q
            obtain ⟨hq1, hq2⟩ := hq
            dsimp only at hq1 hq2
            rw [tB_false hn0] at hq2
            subst hq2
            have hI2 := hI.nostop (q := s2) hn0 hq1
            (repeat' (first | (refine gG ?_; try intro _) | ((first | refine g_split rfl rfl tE (fun _ => ?_) (fun _ => ?_) | refine gk_cond rfl rfl tE (fun _ => ?_) (fun _ => ?_)) <;> (try first | (exfalso; omega; done) | (rename_i hx; exact absurd rfl hx) | (rename_i hx; cases hx; done)))))
            refine g_pack (plL g ⟨.slice rA PL.length rc, s2, now, PL⟩) [allF (PL) (fun r : RuD => faF r.o), allF (PL) (fun r : RuD => fmF r.o)] sA ?_
            have hJ := J.out ⟨rA, rc, s2, now, PL, S, (some ⟨zb, zo, none⟩), lc, L⟩ ⟨hI2, hok⟩
            dsimp only at hJ
            refine g_wk (by repeat (first | exact trivial | refine ⟨rfl, ?_⟩)) sA sS hJ
        | true =>
          as_aux_lemma =>
            have hm0 : (0, (I : Int)) ∈ S.map Tim.key := (hI.rel.due (I : Int)).2 ⟨by omega, z, by rw [Int.toNat_natCast]; exact hz, hd⟩
            have hset : L.take I ++ [(⟨z.r, z.t, false⟩ : LrD)] ++ L.drop (I + 1) = L.set I (⟨z.r, z.t, false⟩ : LrD) := by rw [List.set_eq_take_append_cons_drop, if_pos hiL, List.append_assoc]; rfl
            have hlT : (L.take I).length = I := by rw [List.length_take]; omega
            have hlD : (L.drop (I + 1)).length = L.length - (I + 1) := by rw [List.length_drop]
            have hsc : L.length ≤ lc := hok.c
            (repeat' (first | (refine gG ?_; try intro _) | ((first | refine g_split rfl rfl tE (fun _ => ?_) (fun _ => ?_) | refine gk_cond rfl rfl tE (fun _ => ?_) (fun _ => ?_)) <;> (try first | (exfalso; omega; done) | (rename_i hx; exact absurd rfl hx) | (rename_i hx; cases hx; done)))))
            refine gk_say 132 (.bool true) rfl (congrArg Value.bool hd) ?_
            refine gk_say 11 (.bool true) rfl (congrArg Value.bool hd) ?_
            (repeat' (first | (refine gG ?_; try intro _) | ((first | refine g_split rfl rfl tE (fun _ => ?_) (fun _ => ?_) | refine gk_cond rfl rfl tE (fun _ => ?_) (fun _ => ?_)) <;> (try first | (exfalso; omega; done) | (rename_i hx; exact absurd rfl hx) | (rename_i hx; cases hx; done)))))
            rename_i g12
            refine gk_takeS (enc := LrE) (L := L) (A := (some ⟨zb, zo, none⟩)) (sz := 12) I lc mE (by omega) ?_
            refine gk_dropS (enc := LrE) (L := L) (A := (some ⟨zb, zo, none⟩)) (sz := 12) (I + 1) lc mE (by omega) ?_
            refine gk_sel (f' := [(0, .slice (some ⟨sb, so, none⟩) n c), (1, .int .i64 most), (5, .pointer (some ⟨g, 0, none⟩)), (6, .slice (some ⟨zb, zo, none⟩) (L).length lc), (7, .int .u64 now), (8, .int .i64 (i : Int)), (9, .pointer (some ⟨g9, 0, none⟩)), (11, .bool true), (12, .pointer (some ⟨g12, 0, none⟩))]) (O' := [blk g12 [LrE (⟨z.r, z.t, false⟩ : LrD) 0, LrE (⟨z.r, z.t, false⟩ : LrD) 1, LrE (⟨z.r, z.t, false⟩ : LrD) 2, LrE (⟨z.r, z.t, false⟩ : LrD) 3, LrE (⟨z.r, z.t, false⟩ : LrD) 4, LrE (⟨z.r, z.t, false⟩ : LrD) 5, LrE (⟨z.r, z.t, false⟩ : LrD) 6, LrE (⟨z.r, z.t, false⟩ : LrD) 7, LrE (⟨z.r, z.t, false⟩ : LrD) 8, LrE (⟨z.r, z.t, false⟩ : LrD) 9, LrE (⟨z.r, z.t, false⟩ : LrD) 10, LrE (⟨z.r, z.t, false⟩ : LrD) 11] 50, blk g9 [.int .i64 3, .int .i64 (I : Int), .int .u64 r.f, .int .u64 r.e, .int .i64 r.o.k, .int .i64 r.o.v, .int .i64 r.o.i, .int .i64 r.o.b, .int .i64 r.o.c, .int .u64 r.o.p, r.o.a.v, r.o.m.v, .int .u64 xu] 42, plF g ⟨.slice rA (PL).length rc, s, now, PL⟩, allF (PL) (fun r : RuD => faF r.o), allF (PL) (fun r : RuD => fmF r.o)]) (R' := [sl (shA (some ⟨zb, zo, none⟩) (I + 1) lc 12) 12 LrE (L.drop (I + 1)), sl (shA (some ⟨zb, zo, none⟩) 0 lc 12) 12 LrE (L.take I), sl (some ⟨zb, zo, none⟩) 12 LrE (L), allF (L) (fun x : LrD => faF x.r.o), allF (L) (fun x : LrD => fmF x.r.o), sl (some ⟨sb, so, none⟩) 13 StE ST, allF ST (fun x : StD => faF x.r.o), allF ST (fun x : StD => fmF x.r.o)]) (by repeat (first | exact trivial | refine ⟨rfl, ?_⟩)) sA sS ?_
            refine gk_any [0, 1, 2, 3, 4, 5, 6, 7, 8, 9, 10, 11] (Cut _ (fun v : Value => [(0, .slice (some ⟨sb, so, none⟩) n c), (1, .int .i64 most), (5, .pointer (some ⟨g, 0, none⟩)), (6, v), (7, .int .u64 now), (8, .int .i64 (i : Int)), (9, .pointer (some ⟨g9, 0, none⟩)), (11, .bool true)]) (fun v => [own 0 50 12 v LrE (L.set I (⟨z.r, z.t, false⟩ : LrD)), blk g9 [.int .i64 3, .int .i64 (I : Int), .int .u64 r.f, .int .u64 r.e, .int .i64 r.o.k, .int .i64 r.o.v, .int .i64 r.o.i, .int .i64 r.o.b, .int .i64 r.o.c, .int .u64 r.o.p, r.o.a.v, r.o.m.v, .int .u64 xu] 42, plF g ⟨.slice rA (PL).length rc, s, now, PL⟩, allF (PL) (fun r : RuD => faF r.o), allF (PL) (fun r : RuD => fmF r.o)]) (fun _ => [sl (some ⟨zb, zo, none⟩) 12 LrE (L), allF (L) (fun x : LrD => faF x.r.o), allF (L) (fun x : LrD => fmF x.r.o), sl (some ⟨sb, so, none⟩) 13 StE ST, allF ST (fun x : StD => faF x.r.o), allF ST (fun x : StD => fmF x.r.o)])) rfl rfl (by kernel_rfl) ?_ (cut_k fun v => ?_)
            · skip
              refine gb_take 1 rfl (by decide +kernel) rfl rfl (ys_ev (nw := true) hT rfl sI) sF ?_
              refine gb_take 2 rfl (by decide +kernel) rfl rfl (ys_ev (nw := true) hT rfl sI) sF ?_
              refine gb_take 3 rfl (by decide +kernel) rfl rfl (by first | exact ys_blk hT rfl rfl mE rfl rfl | exact ys_row hT rfl rfl mE rfl rfl | exact ys_row0 hT rfl rfl mE rfl rfl) sF ?_
              refine gb_take 4 rfl (by decide +kernel) rfl rfl (ys_slice_h hT I rfl rfl rfl rfl rfl (by omega)) sF ?_
              refine gb_take 6 rfl (by decide +kernel) rfl rfl (by first | exact ys_blk hT rfl rfl mE rfl rfl | exact ys_row hT rfl rfl mE rfl rfl | exact ys_row0 hT rfl rfl mE rfl rfl) sF ?_
              refine gb_take 9 rfl (by decide +kernel) rfl rfl (ys_ev (nw := true) hT rfl sI) sF ?_
              refine gb_take 10 rfl (by decide +kernel) rfl rfl (ys_ev (nw := true) hT rfl sI) sF ?_
              refine gb_take 11 rfl (by decide +kernel) rfl rfl (by first | exact ys_blk hT rfl rfl mE rfl rfl | exact ys_row hT rfl rfl mE rfl rfl | exact ys_row0 hT rfl rfl mE rfl rfl) sF ?_
              refine gb_take 12 rfl (by decide +kernel) rfl rfl (ys_ev (nw := true) hT rfl sI) sF ?_
              refine gb_take 13 rfl (by decide +kernel) rfl rfl (ys_slice_l hT (I + 1) rfl rfl rfl rfl (by push_cast; rfl) (by omega)) sF ?_
              refine gb_all (by decide +kernel) ?_
              refine gball_yes rfl rfl ?_ ?_
              · (refine mv_empty 12 LrE rfl hT rfl rfl rfl rfl rfl ?_; intro g1)
                refine ⟨sF, ?_⟩
                refine gb_all (by decide +kernel) ?_
                refine gball_not (by decide +kernel) ?_
                refine gball_not (by decide +kernel) ?_
                refine gball_not (by decide +kernel) ?_
                refine gball_not (by decide +kernel) ?_
                refine gball_not (by decide +kernel) ?_
                refine gball_yes rfl rfl ?_ ?_
                · (refine mv_append (L := []) rfl (L.take I) rfl rfl rfl rfl elt_Lr (by intro _; first | ((repeat (first | with_reducible exact Upd.here _ | with_reducible apply Upd.there)); done) | ((repeat (first | exact Upd.here _ | apply Upd.there)); done) | fail) (src_R mE) (by omega) oneLr (by simp only [maxLen, List.length_append, List.length_cons, List.length_nil]; omega) (by simp only [List.length_append, List.length_cons, List.length_nil]; omega) (Nat.zero_le _) ?_; intro v1)
                  refine ⟨sF, ?_⟩
                  refine gb_only 7 (by decide +kernel) rfl rfl ?_
                  (refine mv_buildSlice (len := 1) rfl hT rfl rfl rfl rfl rfl rfl rfl rfl ?_; intro g6)
                  refine ⟨sF, ?_⟩
                  refine gb_only 8 (by decide +kernel) rfl rfl ?_
                  (refine mv_append (L := L.take I) rfl [(⟨z.r, z.t, false⟩ : LrD)] rfl rfl rfl rfl elt_Lr (by intro _; first | ((repeat (first | with_reducible exact Upd.here _ | with_reducible apply Upd.there)); done) | ((repeat (first | exact Upd.here _ | apply Upd.there)); done) | fail) (src_blk mE rfl) rfl oneLr (by simp only [maxLen, List.length_append, List.length_cons, List.length_nil]; omega) (by simp only [List.length_append, List.length_cons, List.length_nil]; omega) (Nat.zero_le _) ?_; intro v2)
                  refine ⟨sF, ?_⟩
                  refine gb_only 14 (by decide +kernel) rfl rfl ?_
                  (refine mv_append (L := L.take I ++ [(⟨z.r, z.t, false⟩ : LrD)]) rfl (L.drop (I + 1)) rfl rfl rfl rfl elt_Lr (by intro _; first | ((repeat (first | with_reducible exact Upd.here _ | with_reducible apply Upd.there)); done) | ((repeat (first | exact Upd.here _ | apply Upd.there)); done) | fail) (src_R mE) (by omega) oneLr (by simp only [maxLen, List.length_append, List.length_cons, List.length_nil]; omega) (by simp only [List.length_append, List.length_cons, List.length_nil]; omega) (Nat.zero_le _) ?_; intro v3)
                  refine ⟨sF, ?_⟩
                  rw [hset]
                  refine gb_take 15 rfl (by decide +kernel) rfl rfl (ys_ev (nw := true) hT rfl sI) sF ?_
                  refine gb_nil (by decide +kernel) ?_
                  exact ⟨_, (by repeat (first | exact trivial | refine ⟨rfl, ?_⟩)), sA, sS⟩
                refine gball_not (by decide +kernel) ?_
                refine gball_yes rfl rfl ?_ ?_
                · (refine mv_buildSlice (len := 1) rfl hT rfl rfl rfl rfl rfl rfl rfl rfl ?_; intro g6)
                  refine ⟨sF, ?_⟩
                  refine gb_only 5 (by decide +kernel) rfl rfl ?_
                  (refine mv_append (L := []) rfl (L.take I) rfl rfl rfl rfl elt_Lr (by intro _; first | ((repeat (first | with_reducible exact Upd.here _ | with_reducible apply Upd.there)); done) | ((repeat (first | exact Upd.here _ | apply Upd.there)); done) | fail) (src_R mE) (by omega) oneLr (by simp only [maxLen, List.length_append, List.length_cons, List.length_nil]; omega) (by simp only [List.length_append, List.length_cons, List.length_nil]; omega) (Nat.zero_le _) ?_; intro v1)
                  refine ⟨sF, ?_⟩
                  refine gb_only 8 (by decide +kernel) rfl rfl ?_
                  (refine mv_append (L := L.take I) rfl [(⟨z.r, z.t, false⟩ : LrD)] rfl rfl rfl rfl elt_Lr (by intro _; first | ((repeat (first | with_reducible exact Upd.here _ | with_reducible apply Upd.there)); done) | ((repeat (first | exact Upd.here _ | apply Upd.there)); done) | fail) (src_blk mE rfl) rfl oneLr (by simp only [maxLen, List.length_append, List.length_cons, List.length_nil]; omega) (by simp only [List.length_append, List.length_cons, List.length_nil]; omega) (Nat.zero_le _) ?_; intro v2)
                  refine ⟨sF, ?_⟩
                  refine gb_only 14 (by decide +kernel) rfl rfl ?_
                  (refine mv_append (L := L.take I ++ [(⟨z.r, z.t, false⟩ : LrD)]) rfl (L.drop (I + 1)) rfl rfl rfl rfl elt_Lr (by intro _; first | ((repeat (first | with_reducible exact Upd.here _ | with_reducible apply Upd.there)); done) | ((repeat (first | exact Upd.here _ | apply Upd.there)); done) | fail) (src_R mE) (by omega) oneLr (by simp only [maxLen, List.length_append, List.length_cons, List.length_nil]; omega) (by simp only [List.length_append, List.length_cons, List.length_nil]; omega) (Nat.zero_le _) ?_; intro v3)
                  refine ⟨sF, ?_⟩
                  rw [hset]
                  refine gb_take 15 rfl (by decide +kernel) rfl rfl (ys_ev (nw := true) hT rfl sI) sF ?_
                  refine gb_nil (by decide +kernel) ?_
                  exact ⟨_, (by repeat (first | exact trivial | refine ⟨rfl, ?_⟩)), sA, sS⟩
                refine gball_not (by decide +kernel) ?_
                refine gball_not (by decide +kernel) ?_
                refine gball_not (by decide +kernel) ?_
                refine gball_not (by decide +kernel) ?_
                refine gball_not (by decide +kernel) ?_
                refine gball_not (by decide +kernel) ?_
                refine gball_not (by decide +kernel) ?_
                refine gball_not (by decide +kernel) ?_
                exact gball_end (by decide +kernel)
              refine gball_not (by decide +kernel) ?_
              refine gball_not (by decide +kernel) ?_
              refine gball_not (by decide +kernel) ?_
              refine gball_not (by decide +kernel) ?_
              refine gball_not (by decide +kernel) ?_
              refine gball_not (by decide +kernel) ?_
              refine gball_yes rfl rfl ?_ ?_
              · (refine mv_buildSlice (len := 1) rfl hT rfl rfl rfl rfl rfl rfl rfl rfl ?_; intro g6)
                refine ⟨sF, ?_⟩
                refine gb_only 0 (by decide +kernel) rfl rfl ?_
                (refine mv_empty 12 LrE rfl hT rfl rfl rfl rfl rfl ?_; intro g1)
                refine ⟨sF, ?_⟩
                refine gb_only 5 (by decide +kernel) rfl rfl ?_
                (refine mv_append (L := []) rfl (L.take I) rfl rfl rfl rfl elt_Lr (by intro _; first | ((repeat (first | with_reducible exact Upd.here _ | with_reducible apply Upd.there)); done) | ((repeat (first | exact Upd.here _ | apply Upd.there)); done) | fail) (src_R mE) (by omega) oneLr (by simp only [maxLen, List.length_append, List.length_cons, List.length_nil]; omega) (by simp only [List.length_append, List.length_cons, List.length_nil]; omega) (Nat.zero_le _) ?_; intro v1)
                refine ⟨sF, ?_⟩
                refine gb_only 8 (by decide +kernel) rfl rfl ?_
                (refine mv_append (L := L.take I) rfl [(⟨z.r, z.t, false⟩ : LrD)] rfl rfl rfl rfl elt_Lr (by intro _; first | ((repeat (first | with_reducible exact Upd.here _ | with_reducible apply Upd.there)); done) | ((repeat (first | exact Upd.here _ | apply Upd.there)); done) | fail) (src_blk mE rfl) rfl oneLr (by simp only [maxLen, List.length_append, List.length_cons, List.length_nil]; omega) (by simp only [List.length_append, List.length_cons, List.length_nil]; omega) (Nat.zero_le _) ?_; intro v2)
                refine ⟨sF, ?_⟩
                refine gb_only 14 (by decide +kernel) rfl rfl ?_
                (refine mv_append (L := L.take I ++ [(⟨z.r, z.t, false⟩ : LrD)]) rfl (L.drop (I + 1)) rfl rfl rfl rfl elt_Lr (by intro _; first | ((repeat (first | with_reducible exact Upd.here _ | with_reducible apply Upd.there)); done) | ((repeat (first | exact Upd.here _ | apply Upd.there)); done) | fail) (src_R mE) (by omega) oneLr (by simp only [maxLen, List.length_append, List.length_cons, List.length_nil]; omega) (by simp only [List.length_append, List.length_cons, List.length_nil]; omega) (Nat.zero_le _) ?_; intro v3)
                refine ⟨sF, ?_⟩
                rw [hset]
                refine gb_take 15 rfl (by decide +kernel) rfl rfl (ys_ev (nw := true) hT rfl sI) sF ?_
                refine gb_nil (by decide +kernel) ?_
                exact ⟨_, (by repeat (first | exact trivial | refine ⟨rfl, ?_⟩)), sA, sS⟩
              refine gball_not (by decide +kernel) ?_
              refine gball_not (by decide +kernel) ?_
              refine gball_not (by decide +kernel) ?_
              refine gball_not (by decide +kernel) ?_
              refine gball_not (by decide +kernel) ?_
              refine gball_not (by decide +kernel) ?_
              refine gball_not (by decide +kernel) ?_
              refine gball_not (by decide +kernel) ?_
              exact gball_end (by decide +kernel)
            refine gk_freeze _ (by intro _; first | ((repeat (first | with_reducible exact Upd.here _ | with_reducible apply Upd.there)); done) | ((repeat (first | exact Upd.here _ | apply Upd.there)); done) | fail) (fun A4 c4 hA4 hA41 hA42 hA43 => ?_); subst hA4
            refine gk_share (φ := sl A4 12 LrE (L.set I (⟨z.r, z.t, false⟩ : LrD))) (by repeat (first | with_reducible exact Sel.here | with_reducible apply Sel.there)) ?_
            refine gk_der [allF (L) (fun x : LrD => faF x.r.o)] (φ := allF (L.set I (⟨z.r, z.t, false⟩ : LrD)) (fun x : LrD => faF x.r.o)) (der_same (F := faF) (set_mem hz (x := z))) sS ?_
            refine gk_der [allF (L) (fun x : LrD => fmF x.r.o)] (φ := allF (L.set I (⟨z.r, z.t, false⟩ : LrD)) (fun x : LrD => fmF x.r.o)) (der_same (F := fmF) (set_mem hz (x := z))) sS ?_
            refine gk_unpack (l := [quF g (.slice rA PL.length rc) (.int .u64 now) s, own 0 40 10 (.slice rA PL.length rc) RuE PL]) (by repeat (first | with_reducible exact Sel.here | with_reducible apply Sel.there)) ?_
            (repeat' (first | (refine gG ?_; try intro _) | ((first | refine g_split rfl rfl tE (fun _ => ?_) (fun _ => ?_) | refine gk_cond rfl rfl tE (fun _ => ?_) (fun _ => ?_)) <;> (try first | (exfalso; omega; done) | (rename_i hx; exact absurd rfl hx) | (rename_i hx; cases hx; done)))))
            refine g_mv rfl (mv_call_mod (φ := quF g (.slice rA PL.length rc) (.int .u64 now) s) (ψ := fun q : QuS × Bool => quF g (.slice rA PL.length rc) (.int .u64 now) q.1) (fun w hk => by exact pstop_any g (.slice rA PL.length rc) (.int .u64 now) s S (I : Int) w hI.q (hk.rO (φ := quF g (.slice rA PL.length rc) (.int .u64 now) s) mE)) rfl rfl rfl rfl rfl (by kernel_rfl) (by intro _; first | ((repeat (first | with_reducible exact Upd.here _ | with_reducible apply Upd.there)); done) | ((repeat (first | exact Upd.here _ | apply Upd.there)); done) | fail) (fun q hq => ?_))
            obtain ⟨s2, bb⟩ := q
            obtain ⟨hq1, hq2⟩ := hq
            dsimp only at hq1 hq2
            rw [tB_true hm0] at hq2
            subst hq2
            have hI2 := hI.stop (q := s2) hz hq1
            (repeat' (first | (refine gG ?_; try intro _) | ((first | refine g_split rfl rfl tE (fun _ => ?_) (fun _ => ?_) | refine gk_cond rfl rfl tE (fun _ => ?_) (fun _ => ?_)) <;> (try first | (exfalso; omega; done) | (rename_i hx; exact absurd rfl hx) | (rename_i hx; cases hx; done)))))
            refine g_pack (plL g ⟨.slice rA PL.length rc, s2, now, PL⟩) [allF (PL) (fun r : RuD => faF r.o), allF (PL) (fun r : RuD => fmF r.o)] sA ?_
            have hJ := J.out ⟨rA, rc, s2, now, PL, _, A4, c4, L.set I (⟨z.r, z.t, false⟩ : LrD)⟩ ⟨hI2, ⟨rfl, hA41, hA42, hA43⟩⟩
            dsimp only at hJ
            refine g_wk (by repeat (first | exact trivial | refine ⟨rfl, ?_⟩)) sA sS hJ
      have k12 : xk = 1 ∨ xk = 2 := by omega
      by_cases hu : xu < now
      · rcases k12 with rfl | rfl
        · as_aux_lemma =>
            (repeat' (first | (refine gG ?_; try intro _) | ((first | refine g_split rfl rfl tE (fun _ => ?_) (fun _ => ?_) | refine gk_cond rfl rfl tE (fun _ => ?_) (fun _ => ?_)) <;> (try first | (exfalso; omega; done) | (rename_i hx; exact absurd rfl hx) | (rename_i hx; cases hx; done)))))
            refine g_mv rfl (mv_call_mod (φ := plF g ⟨.slice rA (PL).length rc, s, now, PL⟩) (ψ := fun q : UnD => packF (unL g (.slice rA PL.length rc) PL q)) (fun w hk => by exact puntil_any g rA rc PL s S now xu most w hI.q hI.tok (by omega) (by omega) (by omega) b5 hI.okP (fun b hb => ⟨Kn.apart hk sA b hb, Kn.apart hk sA b hb⟩) (hk.rO (φ := plF g ⟨.slice rA (PL).length rc, s, now, PL⟩) mE) (hk.rO (φ := allF (PL) (fun r : RuD => faF r.o)) mE) (hk.rO (φ := allF (PL) (fun r : RuD => fmF r.o)) mE)) rfl rfl rfl rfl rfl (by kernel_rfl) (by intro _; first | ((repeat (first | with_reducible exact Upd.here _ | with_reducible apply Upd.there)); done) | ((repeat (first | exact Upd.here _ | apply Upd.there)); done) | fail) (fun q hq => ?_))
            obtain ⟨hI2, hq2, hq3⟩ := hI.early hu hq
            obtain ⟨s2, now2, A2, c2, out⟩ := q
            dsimp only at hI2 hq2 hq3
            subst hq2
            subst hq3
            refine g_unpack (l := unL g (.slice rA PL.length rc) PL ⟨s2, now2, A2, c2, []⟩) (by repeat (first | with_reducible exact Sel.here | with_reducible apply Sel.there)) ?_
            dsimp only [unL, List.cons_append, List.nil_append]
            refine g_nilsl none 8 opC ?_
            (repeat' (first | (refine gG ?_; try intro _) | (refine g_mv rfl ?_; first | refine mv_call_bel (fun w hk => same29_any A2 none 0 c2 0 0 [] [] w rfl rfl (by decide) ⟨rfl, fun j a b h => by simp at h⟩ (fun o h => by cases h) (fun o h => by cases h) (hk.rO (φ := sl A2 8 opC ([] : List OpD)) mE) (hk.rO (φ := sl none 8 opC ([] : List OpD)) mE) (hk.rO (φ := allF [] faF) mE) (hk.rO (φ := allF [] fmF) mE) (hk.rO (φ := allF [] faF) mE) (hk.rO (φ := allF [] fmF) mE)) rfl rfl rfl rfl rfl (by kernel_rfl) ?_) | ((first | refine g_split rfl rfl tE (fun _ => ?_) (fun _ => ?_) | refine gk_cond rfl rfl tE (fun _ => ?_) (fun _ => ?_)) <;> (try first | (exfalso; omega; done) | (rename_i hx; exact absurd rfl hx) | (rename_i hx; cases hx; done)))))
            refine g_pack (plL g ⟨.slice rA PL.length rc, s2, now2, PL⟩) [allF (PL) (fun r : RuD => faF r.o), allF (PL) (fun r : RuD => fmF r.o)] sA ?_
            have hJ := J.out ⟨rA, rc, s2, now2, PL, S, lA, lc, L⟩ ⟨hI2, hok⟩
            dsimp only at hJ
            refine g_wk (by repeat (first | exact trivial | refine ⟨rfl, ?_⟩)) sA sS hJ
        · as_aux_lemma =>
            (repeat' (first | (refine gG ?_; try intro _) | ((first | refine g_split rfl rfl tE (fun _ => ?_) (fun _ => ?_) | refine gk_cond rfl rfl tE (fun _ => ?_) (fun _ => ?_)) <;> (try first | (exfalso; omega; done) | (rename_i hx; exact absurd rfl hx) | (rename_i hx; cases hx; done)))))
            refine g_mv rfl (mv_call_mod (φ := plF g ⟨.slice rA (PL).length rc, s, now, PL⟩) (ψ := fun q : UnD => packF (unL g (.slice rA PL.length rc) PL q)) (fun w hk => by exact puntil_any g rA rc PL s S now xu most w hI.q hI.tok (by omega) (by omega) (by omega) b5 hI.okP (fun b hb => ⟨Kn.apart hk sA b hb, Kn.apart hk sA b hb⟩) (hk.rO (φ := plF g ⟨.slice rA (PL).length rc, s, now, PL⟩) mE) (hk.rO (φ := allF (PL) (fun r : RuD => faF r.o)) mE) (hk.rO (φ := allF (PL) (fun r : RuD => fmF r.o)) mE)) rfl rfl rfl rfl rfl (by kernel_rfl) (by intro _; first | ((repeat (first | with_reducible exact Upd.here _ | with_reducible apply Upd.there)); done) | ((repeat (first | exact Upd.here _ | apply Upd.there)); done) | fail) (fun q hq => ?_))
            obtain ⟨hI2, hq2, hq3⟩ := hI.early hu hq
            obtain ⟨s2, now2, A2, c2, out⟩ := q
            dsimp only at hI2 hq2 hq3
            subst hq2
            subst hq3
            refine g_unpack (l := unL g (.slice rA PL.length rc) PL ⟨s2, now2, A2, c2, []⟩) (by repeat (first | with_reducible exact Sel.here | with_reducible apply Sel.there)) ?_
            dsimp only [unL, List.cons_append, List.nil_append]
            refine g_nilsl none 8 opC ?_
            (repeat' (first | (refine gG ?_; try intro _) | (refine g_mv rfl ?_; first | refine mv_call_bel (fun w hk => same29_any A2 none 0 c2 0 0 [] [] w rfl rfl (by decide) ⟨rfl, fun j a b h => by simp at h⟩ (fun o h => by cases h) (fun o h => by cases h) (hk.rO (φ := sl A2 8 opC ([] : List OpD)) mE) (hk.rO (φ := sl none 8 opC ([] : List OpD)) mE) (hk.rO (φ := allF [] faF) mE) (hk.rO (φ := allF [] fmF) mE) (hk.rO (φ := allF [] faF) mE) (hk.rO (φ := allF [] fmF) mE)) rfl rfl rfl rfl rfl (by kernel_rfl) ?_) | ((first | refine g_split rfl rfl tE (fun _ => ?_) (fun _ => ?_) | refine gk_cond rfl rfl tE (fun _ => ?_) (fun _ => ?_)) <;> (try first | (exfalso; omega; done) | (rename_i hx; exact absurd rfl hx) | (rename_i hx; cases hx; done)))))
            refine g_pack (plL g ⟨.slice rA PL.length rc, s2, now2, PL⟩) [allF (PL) (fun r : RuD => faF r.o), allF (PL) (fun r : RuD => fmF r.o)] sA ?_
            have hJ := J.out ⟨rA, rc, s2, now2, PL, S, lA, lc, L⟩ ⟨hI2, hok⟩
            dsimp only at hJ
            refine g_wk (by repeat (first | exact trivial | refine ⟨rfl, ?_⟩)) sA sS hJ
      · rcases k12 with rfl | rfl
        · as_aux_lemma =>
            (repeat' (first | (refine gG ?_; try intro _) | ((first | refine g_split rfl rfl tE (fun _ => ?_) (fun _ => ?_) | refine gk_cond rfl rfl tE (fun _ => ?_) (fun _ => ?_)) <;> (try first | (exfalso; omega; done) | (rename_i hx; exact absurd rfl hx) | (rename_i hx; cases hx; done)))))
            refine g_mv rfl ?_; refine mv_call_rs (fun w hk => luntil_any lA L.length lc L S now xu most w hok hI.rel (by omega) (by omega) hI.ok (hk.rR (φ := sl lA 12 LrE (L)) mE) (hk.rR (φ := allF (L) (fun x : LrD => faF x.r.o)) mE) (hk.rR (φ := allF (L) (fun x : LrD => fmF x.r.o)) mE)) rfl rfl rfl rfl rfl (by kernel_rfl) sS (fun _ => rfl) (fun p hp hnp => ?_)
            obtain ⟨⟨lA2, ln2, lc2⟩, L2, now3, ⟨oA, on, oc⟩, lo⟩ := p
            have hso := hp.same.mem
            have hln := hp.sok.n
            dsimp only at hso hln
            subst hln
            (repeat (refine gG ?_; try intro _))
            refine g_mv rfl (mv_call_mod (φ := plF g ⟨.slice rA (PL).length rc, s, now, PL⟩) (ψ := fun q : UnD => packF (unL g (.slice rA PL.length rc) PL q)) (fun w hk => by exact puntil_any g rA rc PL s S now xu most w hI.q hI.tok (by omega) (by omega) (by omega) b5 hI.okP (fun b hb => ⟨Kn.apart hk sA b hb, Kn.apart hk sA b hb⟩) (hk.rO (φ := plF g ⟨.slice rA (PL).length rc, s, now, PL⟩) mE) (hk.rO (φ := allF (PL) (fun r : RuD => faF r.o)) mE) (hk.rO (φ := allF (PL) (fun r : RuD => fmF r.o)) mE)) rfl rfl rfl rfl rfl (by kernel_rfl) (by intro _; first | ((repeat (first | with_reducible exact Upd.here _ | with_reducible apply Upd.there)); done) | ((repeat (first | exact Upd.here _ | apply Upd.there)); done) | fail) (fun q hq => ?_))
            obtain ⟨S2, hU⟩ := hI.until hu hq hp
            obtain ⟨s2, now2, A2, c2, out⟩ := q
            obtain ⟨hI2, hsm, hnw, hno, hok1, hok2, hsk, hon⟩ := hU
            dsimp only at hI2 hsm hnw hno hok1 hok2 hsk hon
            subst hnw
            refine g_unpack (l := unL g (.slice rA PL.length rc) PL ⟨s2, now2, A2, c2, out⟩) (by repeat (first | with_reducible exact Sel.here | with_reducible apply Sel.there)) ?_
            dsimp only [unL, List.cons_append, List.nil_append]
            (repeat' (first | (refine gG ?_; try intro _) | (refine g_mv rfl ?_; first | refine mv_call_bel (fun w hk => same29_any A2 oA out.length c2 on oc out lo w rfl hon (by omega) hsm hok1 hok2 (hk.rO (φ := sl A2 8 opC out) mE) (hk.rR (φ := sl oA 8 opC lo) mE) (hk.rO (φ := allF out faF) mE) (hk.rO (φ := allF out fmF) mE) (hk.rR (φ := allF lo faF) mE) (hk.rR (φ := allF lo fmF) mE)) rfl rfl rfl rfl rfl (by kernel_rfl) ?_) | ((first | refine g_split rfl rfl tE (fun _ => ?_) (fun _ => ?_) | refine gk_cond rfl rfl tE (fun _ => ?_) (fun _ => ?_)) <;> (try first | (exfalso; omega; done) | (rename_i hx; exact absurd rfl hx) | (rename_i hx; cases hx; done)))))
            refine g_pack (plL g ⟨.slice rA PL.length rc, s2, now2, PL⟩) [allF (PL) (fun r : RuD => faF r.o), allF (PL) (fun r : RuD => fmF r.o)] sA ?_
            refine g_der [allF (L) (fun x : LrD => faF x.r.o)] (φ := allF (L2) (fun x : LrD => faF x.r.o)) (der_same (F := faF) hso) sS ?_
            refine g_der [allF (L) (fun x : LrD => fmF x.r.o)] (φ := allF (L2) (fun x : LrD => fmF x.r.o)) (der_same (F := fmF) hso) sS ?_
            have hJ := J.out ⟨rA, rc, s2, now2, PL, S2, lA2, lc2, L2⟩ ⟨hI2, hsk⟩
            dsimp only at hJ
            refine g_wk (by repeat (first | exact trivial | refine ⟨rfl, ?_⟩)) sA sS hJ
        · as_aux_lemma =>
            (repeat' (first | (refine gG ?_; try intro _) | ((first | refine g_split rfl rfl tE (fun _ => ?_) (fun _ => ?_) | refine gk_cond rfl rfl tE (fun _ => ?_) (fun _ => ?_)) <;> (try first | (exfalso; omega; done) | (rename_i hx; exact absurd rfl hx) | (rename_i hx; cases hx; done)))))
            refine g_mv rfl ?_; refine mv_call_rs (fun w hk => luntil_any lA L.length lc L S now xu most w hok hI.rel (by omega) (by omega) hI.ok (hk.rR (φ := sl lA 12 LrE (L)) mE) (hk.rR (φ := allF (L) (fun x : LrD => faF x.r.o)) mE) (hk.rR (φ := allF (L) (fun x : LrD => fmF x.r.o)) mE)) rfl rfl rfl rfl rfl (by kernel_rfl) sS (fun _ => rfl) (fun p hp hnp => ?_)
            obtain ⟨⟨lA2, ln2, lc2⟩, L2, now3, ⟨oA, on, oc⟩, lo⟩ := p
            have hso := hp.same.mem
            have hln := hp.sok.n
            dsimp only at hso hln
            subst hln
            (repeat (refine gG ?_; try intro _))
            refine g_mv rfl (mv_call_mod (φ := plF g ⟨.slice rA (PL).length rc, s, now, PL⟩) (ψ := fun q : UnD => packF (unL g (.slice rA PL.length rc) PL q)) (fun w hk => by exact puntil_any g rA rc PL s S now xu most w hI.q hI.tok (by omega) (by omega) (by omega) b5 hI.okP (fun b hb => ⟨Kn.apart hk sA b hb, Kn.apart hk sA b hb⟩) (hk.rO (φ := plF g ⟨.slice rA (PL).length rc, s, now, PL⟩) mE) (hk.rO (φ := allF (PL) (fun r : RuD => faF r.o)) mE) (hk.rO (φ := allF (PL) (fun r : RuD => fmF r.o)) mE)) rfl rfl rfl rfl rfl (by kernel_rfl) (by intro _; first | ((repeat (first | with_reducible exact Upd.here _ | with_reducible apply Upd.there)); done) | ((repeat (first | exact Upd.here _ | apply Upd.there)); done) | fail) (fun q hq => ?_))
            obtain ⟨S2, hU⟩ := hI.until hu hq hp
            obtain ⟨s2, now2, A2, c2, out⟩ := q
            obtain ⟨hI2, hsm, hnw, hno, hok1, hok2, hsk, hon⟩ := hU
            dsimp only at hI2 hsm hnw hno hok1 hok2 hsk hon
            subst hnw
            refine g_unpack (l := unL g (.slice rA PL.length rc) PL ⟨s2, now2, A2, c2, out⟩) (by repeat (first | with_reducible exact Sel.here | with_reducible apply Sel.there)) ?_
            dsimp only [unL, List.cons_append, List.nil_append]
            (repeat' (first | (refine gG ?_; try intro _) | (refine g_mv rfl ?_; first | refine mv_call_bel (fun w hk => same29_any A2 oA out.length c2 on oc out lo w rfl hon (by omega) hsm hok1 hok2 (hk.rO (φ := sl A2 8 opC out) mE) (hk.rR (φ := sl oA 8 opC lo) mE) (hk.rO (φ := allF out faF) mE) (hk.rO (φ := allF out fmF) mE) (hk.rR (φ := allF lo faF) mE) (hk.rR (φ := allF lo fmF) mE)) rfl rfl rfl rfl rfl (by kernel_rfl) ?_) | ((first | refine g_split rfl rfl tE (fun _ => ?_) (fun _ => ?_) | refine gk_cond rfl rfl tE (fun _ => ?_) (fun _ => ?_)) <;> (try first | (exfalso; omega; done) | (rename_i hx; exact absurd rfl hx) | (rename_i hx; cases hx; done)))))
            refine g_pack (plL g ⟨.slice rA PL.length rc, s2, now2, PL⟩) [allF (PL) (fun r : RuD => faF r.o), allF (PL) (fun r : RuD => fmF r.o)] sA ?_
            refine g_der [allF (L) (fun x : LrD => faF x.r.o)] (φ := allF (L2) (fun x : LrD => faF x.r.o)) (der_same (F := faF) hso) sS ?_
            refine g_der [allF (L) (fun x : LrD => fmF x.r.o)] (φ := allF (L2) (fun x : LrD => fmF x.r.o)) (der_same (F := fmF) hso) sS ?_
            have hJ := J.out ⟨rA, rc, s2, now2, PL, S2, lA2, lc2, L2⟩ ⟨hI2, hsk⟩
            dsimp only at hJ
            refine g_wk (by repeat (first | exact trivial | refine ⟨rfl, ?_⟩)) sA sS hJ
    case g =>
      clear hI hok hLb hLn hLs
      rintro ⟨rA, rc, s, now, PL, S, lA, lc, L⟩ ⟨hI, hok⟩
      dsimp only at hI hok ⊢
      have hLb := hI.b
      have hLn := hI.len
      have hK := hI.tok.k
      rcases S with _ | ⟨y, S⟩
      · as_aux_lemma =>
        (repeat' (first | (refine gG ?_; try intro _) | (refine g_mv rfl ?_; first | refine mv_call_bel (fun w hk => pnext_nil g PL.length rc rA (.int .u64 now) s w (by omega) hI.q hK ((hk.rO (φ := plF g ⟨.slice rA (PL).length rc, s, now, PL⟩) mE).unpack (.head _))) rfl rfl rfl rfl rfl (by kernel_rfl) ?_ | refine mv_call_bel (fun w hk => first_nil lA lc L w hI.rel (by omega) (hk.rR (φ := sl lA 12 LrE (L)) mE)) rfl rfl rfl rfl rfl (by kernel_rfl) ?_ | refine mv_call_bel (fun w hk => pnow_any g (.slice rA PL.length rc) now s w ((hk.rO (φ := plF g ⟨.slice rA (PL).length rc, s, now, PL⟩) mE).unpack (.head _))) rfl rfl rfl rfl rfl (by kernel_rfl) ?_) | ((first | refine g_split rfl rfl tE (fun _ => ?_) (fun _ => ?_) | refine gk_cond rfl rfl tE (fun _ => ?_) (fun _ => ?_)) <;> (try first | (exfalso; omega; done) | (rename_i hx; exact absurd rfl hx) | (rename_i hx; cases hx; done)))))
        all_goals first | (exfalso; (have hz : tB ((0 : Int) ≤ -1) = false := tB_false (by decide)); simp_all; done) | skip
        refine gk_again_sel rfl (i + 1, rA, rc, s, now, PL, [], lA, lc, L) ⟨hlt, hI, hok⟩ (by dsimp only; omega) (by repeat (first | exact trivial | refine ⟨rfl, ?_⟩)) sA sS
      · as_aux_lemma =>
        have hfst := fun w => first_cons lA lc L y S w hI.rel (by omega)
        obtain ⟨c1, c2, x, hx2, c4, c5⟩ := hI.rel.b y (.head _)
        obtain ⟨yt, yk, yi⟩ := y
        dsimp only at c1 c2 hx2 c5 hfst ⊢
        obtain ⟨j, rfl⟩ := Int.eq_ofNat_of_zero_le c2
        rw [Int.toNat_natCast] at hx2
        subst c1
        subst c5
        have hjL := (List.getElem?_eq_some_iff.1 hx2).1
        refine g_elem (A := lA) (enc := LrE) (L := L) j mE hjL (by decide) (fun zb zo z eA hz => ?_)
        subst eA
        obtain rfl : x = z := by rw [hx2] at hz; exact Option.some.inj hz
        (repeat' (first | (refine gG ?_; try intro _) | (refine g_mv rfl ?_; first | refine mv_call_bel (fun w hk => pnext_cons g PL.length rc rA (.int .u64 now) s ⟨x.t, 0, (j : Int)⟩ S w (by omega) hI.q hK ((hk.rO (φ := plF g ⟨.slice rA (PL).length rc, s, now, PL⟩) mE).unpack (.head _))) rfl rfl rfl rfl rfl (by kernel_rfl) ?_ | refine mv_call_bel (fun w hk => hfst w (hk.rR (φ := sl (some ⟨zb, zo, none⟩) 12 LrE (L)) mE)) rfl rfl rfl rfl rfl (by kernel_rfl) ?_ | refine mv_call_bel (fun w hk => pnow_any g (.slice rA PL.length rc) now s w ((hk.rO (φ := plF g ⟨.slice rA (PL).length rc, s, now, PL⟩) mE).unpack (.head _))) rfl rfl rfl rfl rfl (by kernel_rfl) ?_) | ((first | refine g_split rfl rfl tE (fun _ => ?_) (fun _ => ?_) | refine gk_cond rfl rfl tE (fun _ => ?_) (fun _ => ?_)) <;> (try first | (exfalso; omega; done) | (rename_i hx; exact absurd rfl hx) | (rename_i hx; cases hx; done)))))
        all_goals first | (exfalso; (have hz : tB ((0 : Int) ≤ (j : Int)) = true := tB_true (by omega)); simp_all; done) | skip
        refine gk_again_sel rfl (i + 1, rA, rc, s, now, PL, ⟨x.t, 0, (j : Int)⟩ :: S, (some ⟨zb, zo, none⟩), lc, L) ⟨hlt, hI, hok⟩ (by dsimp only; omega) (by repeat (first | exact trivial | refine ⟨rfl, ?_⟩)) sA sS
  · (repeat' (first | (refine gG ?_; try intro _) | (refine g_mv rfl ?_; first | refine mv_call_bel (fun w hk => alive58 w) rfl rfl rfl rfl rfl (by kernel_rfl) ?_) | ((first | refine g_split rfl rfl tE (fun _ => ?_) (fun _ => ?_) | refine gk_cond rfl rfl tE (fun _ => ?_) (fun _ => ?_)) <;> (try first | (exfalso; omega; done) | (rename_i hx; exact absurd rfl hx) | (rename_i hx; cases hx; done)))))
    refine gk_ret hT rfl rfl (.tmp rfl .nil) (fun w' hk => ?_)
    exact ⟨rfl, hk.toBelow⟩
end Go.Proofs.Ytgpfedmfbkhhcaa.Sd

