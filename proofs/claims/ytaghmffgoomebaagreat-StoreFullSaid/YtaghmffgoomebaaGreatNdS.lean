/- Entries; Clone, halves of nodes; what is handed back of Leaves and Inners, as lists of nodes. -/
import Derived.Test.YtaghmffgoomebaaGreatNd3
import Derived.Test.YtaghmffgoomebaaGreatNdI
namespace Go.Proofs.YtaghmffgoomebaaGreat.Nd
open Go.RowKit Mem Gx
set_option linter.unusedVariables false
set_option linter.unusedSimpArgs false
set_option maxRecDepth 100000
set_option maxHeartbeats 4000000
inductive All2 {α β : Type} (P : α → β → Prop) : List α → List β → Prop
  | nil : All2 P [] []
  | cons {a : α} {b : β} {l : List α} {m : List β} (h : P a b) (t : All2 P l m) : All2 P (a :: l) (b :: m)
/-- A row as it is cut into nodes. -/
def cutN {α : Type} (L : List α) : List (List α) := if L.length = 0 then [] else if L.length ≤ 6 then [L] else [L.take (L.length / 2), L.drop (L.length / 2)]
/-- A node, as one fact. -/
abbrev NodeD.b (d : NodeD) : Fact := blk d.g [.bool d.leaf, d.K.v, d.V.v, d.C.v, .int .u32 d.a] 109
def nodeF (d : NodeD) : Fact := allF d.fs id
theorem sl_of_blk {α : Type} [Inhabited α] {w : World} {g T : Nat} {cs : List Value} {sz : Nat} {enc : α → Nat → Value} {M : List α} (hb : w.heap[g]? = some (.cells cs.toArray T (0, 0))) (he : cs = flatF sz enc M) : Sl w (some ⟨g, 0, none⟩) sz enc M := fun hn => by
  refine ⟨g, 0, rfl, fun i hi j hj => ?_⟩
  have hy : M[i]? = some M[i] := List.getElem?_eq_getElem hi
  rw [Nat.zero_add, cell_of_row w g _ cs.toArray T (0, 0) hb, LF_at hy, he]
  simpa using flatF_get sz enc M i j _ hy hj
section
variable {w w' : World} {O R RA : List Fact}
theorem RS1.lit {α : Type} [Inhabited α] {g T : Nat} {cs : List Value} {sz : Nat} {enc : α → Nat → Value} {M : List α} (hk : Kn [] w w' O R) (hm : blk g cs T ∈ O) (he : cs = flatF sz enc M) : RS1 w w' RA (sl (some ⟨g, 0, none⟩) sz enc M) := by
  have h := RS1.own (RA := RA) hk hm
  refine ⟨sl_of_blk (hk.pO _ hm) he, fun b hb => ?_⟩
  obtain ⟨_, a, ha, hab⟩ := hb
  injection ha with ha
  exact h.2 b (by rw [← hab, ← ha]; rfl)
theorem RS1.node {d : NodeD} (hk : Kn [] w w' O R) (h1 : d.b ∈ O) (h2 : sl d.K.A 3 KE d.Ks ∈ O) (h3 : sl d.V.A 1 (IE .u32) d.Vs ∈ O) (h4 : sl d.C.A 1 PE d.Cs ∈ O) : RS1 w w' RA (nodeF d) := by
  refine RS1.all fun φ hφ => ?_
  unfold NodeD.fs at hφ
  rcases List.mem_cons.1 hφ with h | hφ
  · rw [h]; exact RS1.own hk h1
  rcases List.mem_cons.1 hφ with h | hφ
  · rw [h]; exact RS1.own hk h2
  rcases List.mem_cons.1 hφ with h | hφ
  · rw [h]; exact RS1.own hk h3
  obtain rfl := List.mem_singleton.1 hφ
  exact RS1.own hk h4
theorem RS1.nodes {ds : List NodeD} (h : ∀ d, d ∈ ds → RS1 w w' RA (nodeF d)) : RS1 w w' RA (allF ds nodeF) := RS1.all h
theorem rd_nb {d : NodeD} (h : Rd1 w (nodeF d)) : Rd1 w d.b := h.open (F := id) (x := d.b) (by unfold NodeD.fs; exact .head _)
theorem rd_nK {d : NodeD} (h : Rd1 w (nodeF d)) : Rd1 w (sl d.K.A 3 KE d.Ks) := h.open (F := id) (x := sl d.K.A 3 KE d.Ks) (by unfold NodeD.fs; simp)
theorem rd_nV {d : NodeD} (h : Rd1 w (nodeF d)) : Rd1 w (sl d.V.A 1 (IE .u32) d.Vs) := h.open (F := id) (x := sl d.V.A 1 (IE .u32) d.Vs) (by unfold NodeD.fs; simp)
theorem rd_nC {d : NodeD} (h : Rd1 w (nodeF d)) : Rd1 w (sl d.C.A 1 PE d.Cs) := h.open (F := id) (x := sl d.C.A 1 PE d.Cs) (by unfold NodeD.fs; simp)
theorem rd_sub {α : Type} {l m : List α} {F : α → Fact} (h : Rd1 w (allF l F)) (hs : ∀ x, x ∈ m → x ∈ l) : Rd1 w (allF m F) := Rd1.all fun x hx => h.open (hs x hx)
theorem rd_kidB {ds : List NodeD} (h : Rd1 w (allF ds nodeF)) : Rd1 w (allF ds kidB) := Rd1.all fun d hd => (rd_nb (h.open hd)).row
theorem rd_kidK {ds : List NodeD} (h : Rd1 w (allF ds nodeF)) : Rd1 w (allF ds kidK) := Rd1.all fun d hd => rd_nK (h.open hd)
end
theorem entries_any (g : Nat) (lf : Bool) (K V C : SlV) (a : Int) (L : List EntD) (w : World) (hK : K.n = L.length) (hV : V.n = L.length) (h9 : L.length ≤ 10000) (hB : Rds w [blk g [.bool lf, K.v, V.v, C.v, .int .u32 a] 109, sl K.A 3 KE (L.map (·.k)), sl V.A 1 (IE .u32) (L.map (·.a))]) :
    Calls Tryz.prog 45 [.pointer (some ⟨g, 0, none⟩)].toArray w (Ret (fun _ : Value => True) (fun v => v) (fun v => [own 0 31 4 v EE L]) w) := by
  obtain ⟨KA, Kn, Kc⟩ := K
  obtain ⟨VA, Vn, Vc⟩ := V
  dsimp only at hK hV
  have hB' : Rds w [blk g [.bool lf, .slice KA Kn Kc, .slice VA Vn Vc, C.v, .int .u32 a] 109, sl KA 3 KE (L.map (·.k)), sl VA 1 (IE .u32) (L.map (·.a))] := hB
  clear hB
  refine g_enter0 T [] [] [blk g [.bool lf, .slice KA Kn Kc, .slice VA Vn Vc, C.v, .int .u32 a] 109, sl KA 3 KE (L.map (·.k)), sl VA 1 (IE .u32) (L.map (·.a))] Tryz.func45 rfl Tryz.ntmps45 rfl hB'.kn ?_
  refine gk_rowR (g := g) mE ?_
  (repeat (refine gG ?_; try intro _))
  refine gk_own 0 31 4 EE ?_
  refine gk_loop_sel (fun (q : Nat × Value × (List EntD)) => match q with | (j, v, M) => j ≤ L.length ∧ M = L.take j) (fun (q : Nat × Value × (List EntD)) => match q with | (j, v, M) => [(0, .pointer (some ⟨g, 0, none⟩)), (3, v), (9, .slice VA Vn Vc), (10, .int .i64 Vn), (11, .int .i64 j)]) (fun (q : Nat × Value × (List EntD)) => match q with | (j, v, M) => [own 0 31 4 v EE M]) (fun (q : Nat × Value × (List EntD)) => match q with | (j, v, M) => [row g 0 [.bool lf, .slice KA Kn Kc, .slice VA Vn Vc, C.v, .int .u32 a], sl KA 3 KE (L.map (·.k)), sl VA 1 (IE .u32) (L.map (·.a))]) (fun (q : Nat × Value × (List EntD)) => match q with | (j, v, M) => L.length - j) (0, .slice none 0 0, []) rfl ⟨Nat.zero_le _, rfl⟩ (by repeat (first | exact trivial | refine ⟨rfl, ?_⟩)) sA sS ?_
  rintro ⟨j, v, M⟩ hI
  replace hI : j ≤ L.length ∧ M = L.take j := hI
  change GK _ _ [(0, .pointer (some ⟨g, 0, none⟩)), (3, v), (9, .slice VA Vn Vc), (10, .int .i64 Vn), (11, .int .i64 j)] [own 0 31 4 v EE M] [row g 0 [.bool lf, .slice KA Kn Kc, .slice VA Vn Vc, C.v, .int .u32 a], sl KA 3 KE (L.map (·.k)), sl VA 1 (IE .u32) (L.map (·.a))]
  obtain ⟨hj, hM⟩ := hI
  have hMl : M.length = j := by rw [hM, List.length_take]; omega
  (repeat (refine gG ?_; try intro _))
  refine gk_cond rfl rfl (tells_tB _) (fun hlt => ?_) (fun hlt => ?_)
  · have hjL : j < L.length := by omega
    obtain ⟨y, hy⟩ : ∃ y, L[j]? = some y := ⟨L[j], List.getElem?_eq_getElem hjL⟩
    refine gk_elem (enc := KE) (L := L.map (·.k)) j mE (by rw [List.length_map]; omega) (by decide) (fun b0 o0 y1 eA hy1 => ?_)
    subst eA
    obtain rfl : y.k = y1 := by
      rw [List.getElem?_map, hy] at hy1
      exact Option.some.inj hy1
    refine gk_elem (enc := IE .u32) (L := L.map (·.a)) j mE (by rw [List.length_map]; omega) (by decide) (fun b1 o1 y2 eA hy2 => ?_)
    subst eA
    obtain rfl : y.a = y2 := by
      rw [List.getElem?_map, hy] at hy2
      exact Option.some.inj hy2
    (repeat (refine gG ?_; try intro _))
    refine g_mv rfl (mv_append rfl [y] rfl rfl rfl rfl elt_E (by intro _; first | ((repeat (first | with_reducible exact Upd.here _ | with_reducible apply Upd.there)); done) | ((repeat (first | exact Upd.here _ | apply Upd.there)); done) | fail) (src_blk mE rfl) rfl (by intro x j; rcases j with _ | _ | _ | j <;> rfl) (by simp only [maxLen, List.length_cons, List.length_nil]; omega) (by simp only [List.length_cons, List.length_nil]; omega) (Nat.zero_le _) (fun v1 => ?_))
    (repeat (refine gG ?_; try intro _))
    refine gk_again_sel rfl (j + 1, v1, M ++ [y]) ⟨by omega, by
      rw [hM, List.take_succ_eq_append_getElem hjL]
      rw [List.getElem?_eq_getElem hjL] at hy
      injection hy with hy
      rw [hy]⟩ (by dsimp only; omega) (by repeat (first | exact trivial | refine ⟨rfl, ?_⟩)) sA sS
  · have hjn : j = L.length := by omega
    subst hjn
    rw [List.take_length] at hM
    subst hM
    (repeat (refine gG ?_; try intro _))
    refine gk_ret hT rfl rfl (.tmp rfl .nil) (fun w' hk => ?_)
    exact Ret.mk v trivial rfl hk sA
theorem clonePn_own (A : Option Addr) (n c : Nat) (L : List Nat) (w : World) (hn : n = L.length) (hb : n ≤ 100000000) (hs : Sl w A 1 PE L) :
    Calls Tryz.prog 63 [.slice A n c].toArray w (Ret (fun _ : Value => True) (fun v => v) (fun v => [own 0 53 1 v PE L]) w) := by
  rcases A with _ | a
  · have hL : L = [] := by
      rcases Nat.eq_zero_or_pos L.length with h | h
      · exact List.length_eq_zero_iff.1 h
      · obtain ⟨b, off, e, _⟩ := hs h; cases e
    subst hL
    refine g_enter0 T [] [] [] Tryz.func63 rfl Tryz.ntmps63 rfl (Kn.start _) ?_
    (repeat (refine gG ?_; try intro _))
    refine gk_own 0 53 1 PE ?_
    refine gk_ret hT rfl rfl (.tmp rfl .nil) (fun w' hk => ?_)
    exact Ret.mk (.slice none 0 0) trivial rfl hk sA
  · refine g_enter0 T [] [] [sl (some a) 1 PE L] Tryz.func63 rfl Tryz.ntmps63 rfl ((Kn.start w).argR hs (by decide) (fun _ h => by cases h)) ?_
    (repeat (refine gG1 ?_; try intro _))
    refine g_mv rfl (mv_empty 1 PE rfl hT rfl rfl rfl rfl rfl (fun g => ?_))
    (repeat (refine gG1 ?_; try intro _))
    refine g_mv rfl (mv_append (L := []) rfl L rfl rfl rfl rfl elt_P (by intro _; first | ((repeat (first | with_reducible exact Upd.here _ | with_reducible apply Upd.there)); done) | ((repeat (first | exact Upd.here _ | apply Upd.there)); done) | fail) (src_R mE) hn (by intro x j; rfl) (by simp [maxLen]; omega) (by simp; omega) (Nat.zero_le _) (fun v => ?_))
    (repeat (refine gG1 ?_; try intro _))
    refine gk_ret hT rfl rfl (.tmp rfl .nil) (fun w' hk => ?_)
    exact Ret.mk v trivial rfl hk sA
theorem halvesP_any (A : Option Addr) (n c : Nat) (w : World) (hc : n ≤ c) (h9 : n ≤ 10000) :
    Calls Tryz.prog 93 [.slice A n c].toArray w fun e w' => e = .returned (.tuple #[.slice (shA A 0 c 1) (n / 2) c, .slice (shA A (n / 2) c 1) (n - n / 2) (c - n / 2)]) ∧ Below w.heap.size w w' := by
  refine g_enter0 T [] [] [] Tryz.func93 rfl Tryz.ntmps93 rfl (Kn.start _) ?_
  (repeat (refine gG ?_; try intro _))
  have hd : (n : Int) / 2 = ((n / 2 : Nat) : Int) := by omega
  refine gk_any [] (Cut _ (fun _ : Unit => [(2, .slice (shA A 0 c 1) (n / 2) c), (3, .slice (shA A (n / 2) c 1) (n - n / 2) (c - n / 2))]) (fun _ => []) (fun _ => [])) rfl rfl (by kernel_rfl) ?_ (cut_k fun _ => ?_)
  · skip
    refine gb_take 0 rfl (by decide +kernel) rfl rfl (ys_ev (nw := true) hT rfl sI) sF ?_
    refine gb_take 1 rfl (by decide +kernel) rfl rfl (ys_ev (nw := true) hT rfl sI) sF ?_
    refine gb_take 2 rfl (by decide +kernel) rfl rfl (ys_ev (nw := true) hT rfl sI) sF ?_
    refine gb_take 3 rfl (by decide +kernel) rfl rfl (ys_ev (nw := true) hT rfl sI) sF ?_
    refine gb_take 4 rfl (by decide +kernel) rfl rfl (ys_slice_h hT (n / 2) rfl rfl rfl rfl hd (by omega)) sF ?_
    refine gb_take 5 rfl (by decide +kernel) rfl rfl (ys_ev (nw := true) hT rfl sI) sF ?_
    refine gb_take 6 rfl (by decide +kernel) rfl rfl (ys_ev (nw := true) hT rfl sI) sF ?_
    refine gb_take 7 rfl (by decide +kernel) rfl rfl (ys_ev (nw := true) hT rfl sI) sF ?_
    refine gb_take 8 rfl (by decide +kernel) rfl rfl (ys_ev (nw := true) hT rfl sI) sF ?_
    refine gb_take 9 rfl (by decide +kernel) rfl rfl (ys_slice_l hT (n / 2) rfl rfl rfl rfl hd (by omega)) sF ?_
    refine gb_take 10 rfl (by decide +kernel) rfl rfl (ys_ev (nw := true) hT rfl sI) sF ?_
    refine gb_take 11 rfl (by decide +kernel) rfl rfl (ys_ev (nw := true) hT rfl sI) sF ?_
    refine gb_nil (by decide +kernel) ?_
    exact ⟨(), (by repeat (first | exact trivial | refine ⟨rfl, ?_⟩)), sA, List.nil_subset _⟩
  · (repeat (refine gG ?_; try intro _))
    refine gk_ret hT rfl rfl (.tmp rfl (.tmp rfl .nil)) (fun w' hk => ?_)
    exact ⟨rfl, hk.toBelow⟩
/-- A slice of pointers whose block is known whole. -/
def headF (s : SlV) (L : List Nat) : Fact := ⟨fun b => ∃ a, s.A = some a ∧ a.block = b, fun w => ∀ a, s.A = some a → ∃ g, a = ⟨g, 0, none⟩ ∧ w.heap[g]? = some (.cells (flatF 1 PE L).toArray 53 (0, 0)), fun w w' h hp a ha => by
  obtain ⟨g, e, hg⟩ := hp a ha
  exact ⟨g, e, (h g ⟨a, ha, by rw [e]⟩).trans hg⟩⟩
theorem RS1.head {w w' : World} {O R RA : List Fact} {g n c : Nat} {cs : List Value} {L : List Nat} (hk : Kn [] w w' O R) (hm : blk g cs 53 ∈ O) (he : cs = flatF 1 PE L) : RS1 w w' RA (headF ⟨some ⟨g, 0, none⟩, n, c⟩ L) := by
  refine ⟨fun a ha => ?_, fun b hb => ?_⟩
  · injection ha with ha
    exact ⟨g, ha.symm, by rw [← he]; exact hk.pO _ hm⟩
  · obtain ⟨a, ha, hb⟩ := hb
    injection ha with ha
    subst ha
    have h1 : (blk g cs 53).S b := hb.symm
    refine ⟨hk.ltO _ hm b h1, .inl ?_⟩
    rcases hk.ownS _ hm b h1 with h2 | h2
    · exact h2
    · cases h2
/-- Nodes as a slice. -/
structure NS where
  s : SlV
  ds : List NodeD
abbrev RetN (I : List NodeD → Prop) (w : World) : Ending → World → Prop := RetS (fun p : NS => p.s.Ok p.ds.length ∧ I p.ds) (fun p => p.s.v) (fun p => [sl p.s.A 1 PE (p.ds.map NodeD.g), allF p.ds nodeF, headF p.s (p.ds.map NodeD.g)]) [] w
theorem retN_none {I : List NodeD → Prop} {w w' : World} {R O : List Fact} (hI : I []) (hk : Kn [] w w' O R) : RetN I w (.returned (.slice none 0 0)) w' :=
  RetS.mk ⟨⟨none, 0, 0⟩, []⟩ ⟨SlV.ok_nil, hI⟩ rfl hk (.cons ⟨fun h => absurd h (by decide), fun b hb => absurd hb.1 (by simp)⟩ (.cons (RS1.all fun x hx => by cases hx) (.cons ⟨fun a h => (by cases h), fun b ⟨a, h, _⟩ => (by cases h)⟩ .nil)))
theorem leaves_any (A : Option Addr) (n c : Nat) (L : List EntD) (w : World) (hn : n = L.length) (hc : n ≤ c) (h9 : n ≤ 10000) (hs : Sl w A 4 EE L) :
    Calls Tryz.prog 59 [.slice A n c].toArray w (RetN (All2 IsLeaf (cutN L)) w) := by
  by_cases h0 : n = 0
  · subst h0
    refine g_enter0 T [] [] [] Tryz.func59 rfl Tryz.ntmps59 rfl (Kn.start _) ?_
    (repeat' (first | (refine gG ?_; try intro _) | ((first | refine g_split rfl rfl tE (fun _ => ?_) (fun _ => ?_) | refine gk_cond rfl rfl tE (fun _ => ?_) (fun _ => ?_)) <;> (try first | (exfalso; omega; done) | (rename_i hx; exact absurd rfl hx) | (rename_i hx; cases hx; done)))))
    refine gk_ret hT rfl rfl (.tmp rfl .nil) (fun w' hk => ?_)
    exact retN_none (by unfold cutN; rw [if_pos hn.symm]; exact .nil) hk
  by_cases h6 : n ≤ 6
  · refine g_enter0 T [] [] [sl A 4 EE L] Tryz.func59 rfl Tryz.ntmps59 rfl ((Kn.start w).argR hs (by decide) (fun _ h => by cases h)) ?_
    (repeat' (first | (refine gG ?_; try intro _) | ((first | refine g_split rfl rfl tE (fun _ => ?_) (fun _ => ?_) | refine gk_cond rfl rfl tE (fun _ => ?_) (fun _ => ?_)) <;> (try first | (exfalso; omega; done) | (rename_i hx; exact absurd rfl hx) | (rename_i hx; cases hx; done)))))
    refine g_mv rfl ?_; refine mv_call_rt (fun w hk => leaf_any A n c L w hn (by omega) (hk.pR (sl A 4 EE L) mE)) rfl rfl rfl rfl rfl (by kernel_rfl) (fun _ => rfl) (fun d hd => ?_)
    (repeat (refine gG ?_; try intro _))
    rename_i g1
    refine gk_ret hT rfl rfl (.tmp rfl .nil) (fun w' hk => ?_)
    refine RetS.mk ⟨⟨some ⟨g1, 0, none⟩, 1, 1⟩, [d]⟩ ⟨⟨rfl, Nat.le_refl _, by show 1 ≤ maxLen; unfold maxLen; omega, fun h => by cases h⟩, ?_⟩ rfl hk (.cons (RS1.lit hk (cs := [d.ptr]) mE rfl) (.cons (RS1.nodes fun x hx => ?_) (.cons (RS1.head hk (cs := [d.ptr]) mE rfl) .nil)))
    · unfold cutN; rw [if_neg (by omega), if_pos (by omega)]; exact .cons hd .nil
    · obtain rfl := List.mem_singleton.1 hx
      exact RS1.node hk mE mE mE mE
  · refine g_enter0 T [] [] [sl A 4 EE L] Tryz.func59 rfl Tryz.ntmps59 rfl ((Kn.start w).argR hs (by decide) (fun _ h => by cases h)) ?_
    refine gk_takeS (enc := EE) (L := L) (n / 2) c mE (by omega) ?_
    refine gk_dropS (enc := EE) (L := L) (n / 2) c mE (by omega) ?_
    (repeat' (first | (refine gG ?_; try intro _) | (refine g_mv rfl ?_; first | refine mv_call_bel (fun w hk => halvesE_any A n c w hc h9) rfl rfl rfl rfl rfl (by kernel_rfl) ?_) | ((first | refine g_split rfl rfl tE (fun _ => ?_) (fun _ => ?_) | refine gk_cond rfl rfl tE (fun _ => ?_) (fun _ => ?_)) <;> (try first | (exfalso; omega; done) | (rename_i hx; exact absurd rfl hx) | (rename_i hx; cases hx; done)))))
    refine g_mv rfl ?_; refine mv_call_rt (fun w hk => leaf_any (shA A 0 c 4) (n / 2) c (L.take (n / 2)) w (by rw [List.length_take]; omega) (by rw [List.length_take]; omega) (hk.pR (sl (shA A 0 c 4) 4 EE (L.take (n / 2))) mE)) rfl rfl rfl rfl rfl (by kernel_rfl) (fun _ => rfl) (fun d hd => ?_)
    (repeat (refine gG ?_; try intro _))
    refine g_mv rfl ?_; refine mv_call_rt (fun w hk => leaf_any (shA A (n / 2) c 4) (n - n / 2) (c - n / 2) (L.drop (n / 2)) w (by rw [List.length_drop]; omega) (by rw [List.length_drop]; omega) (hk.pR (sl (shA A (n / 2) c 4) 4 EE (L.drop (n / 2))) mE)) rfl rfl rfl rfl rfl (by kernel_rfl) (fun _ => rfl) (fun d2 hd2 => ?_)
    (repeat (refine gG ?_; try intro _))
    rename_i g1
    refine gk_ret hT rfl rfl (.tmp rfl .nil) (fun w' hk => ?_)
    refine RetS.mk ⟨⟨some ⟨g1, 0, none⟩, 2, 2⟩, [d, d2]⟩ ⟨⟨rfl, Nat.le_refl _, by show 2 ≤ maxLen; unfold maxLen; omega, fun h => by cases h⟩, ?_⟩ rfl hk (.cons (RS1.lit hk (cs := [d.ptr, d2.ptr]) mE rfl) (.cons (RS1.nodes fun x hx => ?_) (.cons (RS1.head hk (cs := [d.ptr, d2.ptr]) mE rfl) .nil)))
    · unfold cutN; rw [if_neg (by omega), if_neg (by omega), ← hn]; exact .cons hd (.cons hd2 .nil)
    · rcases List.mem_cons.1 hx with rfl | hx
      · exact RS1.node hk mE mE mE mE
      · obtain rfl := List.mem_singleton.1 hx
        exact RS1.node hk mE mE mE mE
theorem inners_any (A : Option Addr) (n c : Nat) (ds : List NodeD) (w : World) (hn : n = ds.length) (hc : n ≤ c) (h9 : n ≤ 1000) (hne : ∀ d ∈ ds, 0 < d.Ks.length ∧ d.Ok) (hB : Rds w [allF ds nodeF, sl A 1 PE (ds.map NodeD.g)]) :
    Calls Tryz.prog 61 [.slice A n c].toArray w (RetN (All2 IsInner (cutN ds)) w) := by
  by_cases h0 : n = 0
  · subst h0
    refine g_enter0 T [] [] [] Tryz.func61 rfl Tryz.ntmps61 rfl (Kn.start _) ?_
    (repeat' (first | (refine gG ?_; try intro _) | ((first | refine g_split rfl rfl tE (fun _ => ?_) (fun _ => ?_) | refine gk_cond rfl rfl tE (fun _ => ?_) (fun _ => ?_)) <;> (try first | (exfalso; omega; done) | (rename_i hx; exact absurd rfl hx) | (rename_i hx; cases hx; done)))))
    refine gk_ret hT rfl rfl (.tmp rfl .nil) (fun w' hk => ?_)
    exact retN_none (by unfold cutN; rw [if_pos hn.symm]; exact .nil) hk
  by_cases h6 : n ≤ 6
  · refine g_enter0 T [] [] [allF ds nodeF, sl A 1 PE (ds.map NodeD.g)] Tryz.func61 rfl Tryz.ntmps61 rfl hB.kn ?_
    (repeat' (first | (refine gG ?_; try intro _) | ((first | refine g_split rfl rfl tE (fun _ => ?_) (fun _ => ?_) | refine gk_cond rfl rfl tE (fun _ => ?_) (fun _ => ?_)) <;> (try first | (exfalso; omega; done) | (rename_i hx; exact absurd rfl hx) | (rename_i hx; cases hx; done)))))
    refine g_mv rfl ?_; refine mv_call_rt (fun w hk => inner_any A n c ds w hn (by omega) hne (.cons (rd_kidB (hk.rR (φ := allF ds nodeF) mE)) (.cons (rd_kidK (hk.rR (φ := allF ds nodeF) mE)) (.cons (hk.rR mE) .nil)))) rfl rfl rfl rfl rfl (by kernel_rfl) (fun _ => rfl) (fun d hd => ?_)
    (repeat (refine gG ?_; try intro _))
    rename_i g1
    refine gk_ret hT rfl rfl (.tmp rfl .nil) (fun w' hk => ?_)
    refine RetS.mk ⟨⟨some ⟨g1, 0, none⟩, 1, 1⟩, [d]⟩ ⟨⟨rfl, Nat.le_refl _, by show 1 ≤ maxLen; unfold maxLen; omega, fun h => by cases h⟩, ?_⟩ rfl hk (.cons (RS1.lit hk (cs := [d.ptr]) mE rfl) (.cons (RS1.nodes fun x hx => ?_) (.cons (RS1.head hk (cs := [d.ptr]) mE rfl) .nil)))
    · unfold cutN; rw [if_neg (by omega), if_pos (by omega)]; exact .cons hd .nil
    · obtain rfl := List.mem_singleton.1 hx
      exact RS1.node hk mE mE mE mE
  · refine g_enter0 T [] [] [allF ds nodeF, sl A 1 PE (ds.map NodeD.g)] Tryz.func61 rfl Tryz.ntmps61 rfl hB.kn ?_
    refine gk_takeS (enc := PE) (L := ds.map NodeD.g) (n / 2) c mE (by rw [List.length_map]; omega) ?_
    refine gk_dropS (enc := PE) (L := ds.map NodeD.g) (n / 2) c mE (by rw [List.length_map]; omega) ?_
    rw [← List.map_take, ← List.map_drop]
    (repeat' (first | (refine gG ?_; try intro _) | (refine g_mv rfl ?_; first | refine mv_call_bel (fun w hk => halvesP_any A n c w hc (by omega)) rfl rfl rfl rfl rfl (by kernel_rfl) ?_) | ((first | refine g_split rfl rfl tE (fun _ => ?_) (fun _ => ?_) | refine gk_cond rfl rfl tE (fun _ => ?_) (fun _ => ?_)) <;> (try first | (exfalso; omega; done) | (rename_i hx; exact absurd rfl hx) | (rename_i hx; cases hx; done)))))
    refine g_mv rfl ?_; refine mv_call_rt (fun w hk => inner_any (shA A 0 c 1) (n / 2) c (ds.take (n / 2)) w (by rw [List.length_take]; omega) (by omega) (fun d hd => hne d (List.mem_of_mem_take hd)) (.cons (rd_kidB (rd_sub (hk.rR (φ := allF ds nodeF) mE) (fun x hx => List.mem_of_mem_take hx))) (.cons (rd_kidK (rd_sub (hk.rR (φ := allF ds nodeF) mE) (fun x hx => List.mem_of_mem_take hx))) (.cons (hk.rR mE) .nil)))) rfl rfl rfl rfl rfl (by kernel_rfl) (fun _ => rfl) (fun d hd => ?_)
    (repeat (refine gG ?_; try intro _))
    refine g_mv rfl ?_; refine mv_call_rt (fun w hk => inner_any (shA A (n / 2) c 1) (n - n / 2) (c - n / 2) (ds.drop (n / 2)) w (by rw [List.length_drop]; omega) (by omega) (fun d hd => hne d (List.mem_of_mem_drop hd)) (.cons (rd_kidB (rd_sub (hk.rR (φ := allF ds nodeF) mE) (fun x hx => List.mem_of_mem_drop hx))) (.cons (rd_kidK (rd_sub (hk.rR (φ := allF ds nodeF) mE) (fun x hx => List.mem_of_mem_drop hx))) (.cons (hk.rR mE) .nil)))) rfl rfl rfl rfl rfl (by kernel_rfl) (fun _ => rfl) (fun d2 hd2 => ?_)
    (repeat (refine gG ?_; try intro _))
    rename_i g1
    refine gk_ret hT rfl rfl (.tmp rfl .nil) (fun w' hk => ?_)
    refine RetS.mk ⟨⟨some ⟨g1, 0, none⟩, 2, 2⟩, [d, d2]⟩ ⟨⟨rfl, Nat.le_refl _, by show 2 ≤ maxLen; unfold maxLen; omega, fun h => by cases h⟩, ?_⟩ rfl hk (.cons (RS1.lit hk (cs := [d.ptr, d2.ptr]) mE rfl) (.cons (RS1.nodes fun x hx => ?_) (.cons (RS1.head hk (cs := [d.ptr, d2.ptr]) mE rfl) .nil)))
    · unfold cutN; rw [if_neg (by omega), if_neg (by omega), ← hn]; exact .cons hd (.cons hd2 .nil)
    · rcases List.mem_cons.1 hx with rfl | hx
      · exact RS1.node hk mE mE mE mE
      · obtain rfl := List.mem_singleton.1 hx
        exact RS1.node hk mE mE mE mE
end Go.Proofs.YtaghmffgoomebaaGreat.Nd
