/- A disk, as memory has it; spend, done. -/
import Derived.Test.YteajefmnbalofaaGxY
import Derived.Test.YteajefmnbalofaaDk0
import Derived.Test.YteajefmnbalofaaDk1
namespace Go.Proofs.Yteajefmnbalofaa.Dk
open Go.RowKit Mem Gx Bytes
set_option linter.unusedVariables false
set_option linter.unusedSimpArgs false
set_option maxRecDepth 100000
set_option maxHeartbeats 1000000
/-- A sector, as memory has it. -/
structure SecD where
  s : SlV
  L : List Int
instance : Inhabited SecD := ⟨⟨⟨none, 0, 0⟩, []⟩⟩
/-- A late write. -/
structure WrD where
  a : Nat
  d : SecD
instance : Inhabited WrD := ⟨⟨0, default⟩⟩
def SE : SecD → Nat → Value := fun x _ => .slice x.s.A x.s.n x.s.c
def WE : WrD → Nat → Value := fun x k => match k with
  | 0 => .int .i64 x.a
  | _ => .slice x.d.s.A x.d.s.n x.d.s.c
def WrD.val (x : WrD) : Value := .agg #[.int .i64 x.a, .slice x.d.s.A x.d.s.n x.d.s.c]
abbrev secF (d : SecD) : Fact := sl d.s.A 1 (IE .u8) d.L
abbrev wrF (x : WrD) : Fact := sl x.d.s.A 1 (IE .u8) x.d.L
structure SecD.Ok (d : SecD) : Prop where
  s : d.s.Ok d.L.length
  k : SecOk d.L
theorem elt_S : Elt Try.prog 72 36 1 24 := Elt.mk' (z := .slice none 0 0) Try.underlying72 (by kernel_rfl) rfl (by decide)
theorem elt_W : Elt Try.prog 73 118 2 32 := Elt.mk' (z := .agg #[.int .i64 0, .slice none 0 0]) Try.underlying73 (by kernel_rfl) rfl (by decide)
theorem oneS : ∀ (x : SecD) (j : Nat), (SE x j).oneCell' = true := by intro x j; rfl
theorem oneW : ∀ (x : WrD) (j : Nat), (WE x j).oneCell' = true := by intro x j; rcases j with _ | j <;> rfl
/-- What is sure, what is late, and where they lie. -/
structure DkS where
  sv : Value
  lv : Value
  S : List SecD
  W : List WrD
structure DkS.Ok (s : DkS) : Prop where
  S : ∀ d ∈ s.S, d.Ok
  W : ∀ x ∈ s.W, x.d.Ok ∧ x.a < s.S.length
  n : s.S.length ≤ 4096
def DkS.cS (s : DkS) : List Sec := s.S.map SecD.L
def DkS.cW (s : DkS) : List Wr := s.W.map fun x => (x.a, x.d.L)
abbrev dkL (g : Nat) (s : DkS) : List Fact := [blk g [s.sv, s.lv, .bool false, .int .i64 0] 75, own 0 36 1 s.sv SE s.S, own 0 118 2 s.lv WE s.W, allF s.S secF, allF s.W wrF]
abbrev dkF (g : Nat) (s : DkS) : Fact := packF (dkL g s)
theorem dk_fin (g : Nat) (s : DkS) {w : World} (h : Rd1 w (dkF g s)) (b : Nat) : b ∈ finE (dkF g s) w ↔ (dkF g s).S b := finE_mem h.2 b
theorem all_set {S : List SecD} {i : Nat} {d : SecD} : Der [allF S secF, secF d] (allF (S.set i d) secF) := .all fun x hx => by
  rcases List.mem_or_eq_of_mem_set hx with h | rfl
  · exact Der.elem (L := S) (F := secF) (.mem (.head _)) h
  · exact .mem (.tail _ (.head _))
theorem all_snoc {W : List WrD} {x : WrD} : Der [allF W wrF, wrF x] (allF (W ++ [x]) wrF) := .all fun y hy => by
  rcases List.mem_append.1 hy with h | h
  · exact Der.elem (L := W) (F := wrF) (.mem (.head _)) h
  · obtain rfl := List.mem_singleton.1 h
    exact .mem (.tail _ (.head _))
theorem dead_any (g : Nat) (sv lv : Value) (w : World) (hB : Rd1 w (blk g [sv, lv, .bool false, .int .i64 0] 75)) : Calls Try.prog 63 [.pointer (some ⟨g, 0, none⟩)].toArray w fun e w' => e = .returned (.bool false) ∧ Below w.heap.size w w' := by
  refine g_enter0 T [] [] [blk g [sv, lv, .bool false, .int .i64 0] 75] Try.func63 rfl Try.ntmps63 rfl (Rds.cons hB .nil).kn ?_
  refine gk_rowR (g := g) mE ?_
  (repeat' (first | (refine gG ?_; try intro _) | ((first | refine g_split rfl rfl tE (fun _ => ?_) (fun _ => ?_) | refine gk_cond rfl rfl tE (fun _ => ?_) (fun _ => ?_)) <;> (try first | (exfalso; omega; done) | (rename_i hx; exact absurd rfl hx) | (rename_i hx; cases hx; done)))))
  refine gk_ret hT rfl rfl (.tmp rfl .nil) (fun w' hk => ?_)
  exact ⟨rfl, hk.toBelow⟩
theorem spend_any (g : Nat) (sv lv : Value) (w : World) (hB : Rd1 w (blk g [sv, lv, .bool false, .int .i64 0] 75)) : Calls Try.prog 41 [.pointer (some ⟨g, 0, none⟩)].toArray w fun e w' => e = .returned (.bool true) ∧ Below w.heap.size w w' := by
  refine g_enter0 T [] [] [blk g [sv, lv, .bool false, .int .i64 0] 75] Try.func41 rfl Try.ntmps41 rfl (Rds.cons hB .nil).kn ?_
  (repeat' (first | (refine gG ?_; try intro _) | (refine g_mv rfl ?_; first | refine mv_call_bel (fun w hk => dead_any g sv lv w (hk.rR mE)) rfl rfl rfl rfl rfl (by kernel_rfl) ?_) | ((first | refine g_split rfl rfl tE (fun _ => ?_) (fun _ => ?_) | refine gk_cond rfl rfl tE (fun _ => ?_) (fun _ => ?_)) <;> (try first | (exfalso; omega; done) | (rename_i hx; exact absurd rfl hx) | (rename_i hx; cases hx; done)))))
  refine g_rowR (g := g) mE ?_
  (repeat' (first | (refine gG ?_; try intro _) | ((first | refine g_split rfl rfl tE (fun _ => ?_) (fun _ => ?_) | refine gk_cond rfl rfl tE (fun _ => ?_) (fun _ => ?_)) <;> (try first | (exfalso; omega; done) | (rename_i hx; exact absurd rfl hx) | (rename_i hx; cases hx; done)))))
  refine gk_ret hT rfl rfl (.tmp rfl .nil) (fun w' hk => ?_)
  exact ⟨rfl, hk.toBelow⟩
theorem done_any (g : Nat) (sv lv : Value) (S : List SecD) (W : List WrD) (a : Nat) (xA : Option Addr) (xn xc : Nat) (L : List Int) (w : World) (hx : (⟨a, ⟨⟨xA, xn, xc⟩, L⟩⟩ : WrD) ∈ W) (hxn : xn = L.length) (hx8 : SecOk L) (hlt : a < S.length) (h9 : S.length ≤ 4096) (h : Rd1 w (dkF g ⟨sv, lv, S, W⟩)) :
    Calls Try.prog 44 [.pointer (some ⟨g, 0, none⟩), .agg #[.int .i64 a, .slice xA xn xc]].toArray w (RetM (dkF g ⟨sv, lv, S, W⟩) (fun d : SecD => d.Ok ∧ d.L = L) (fun _ => .tuple #[]) (fun d => dkF g ⟨sv, lv, S.set a d, W⟩) w) := by
  have hx128 : L.length = 128 := hx8.1
  have hk0 : Kn (finE (dkF g ⟨sv, lv, S, W⟩) w) w w (dkL g ⟨sv, lv, S, W⟩) [] := Kn.startP h (fun b hb => (dk_fin g _ h b).2 hb) (fun ψ hψ => by cases hψ)
  have hfin : ∀ b, b ∈ finE (dkF g ⟨sv, lv, S, W⟩) w → (dkF g ⟨sv, lv, S, W⟩).S b := fun b hb => (dk_fin g _ h b).1 hb
  refine g_enter0 T (finE (dkF g ⟨sv, lv, S, W⟩) w) [blk g [sv, lv, .bool false, .int .i64 0] 75, own 0 36 1 sv SE S, own 0 118 2 lv WE W, allF S secF, allF W wrF] [] Try.func44 rfl Try.ntmps44 rfl hk0 ?_
  refine gk_own0 sv (L := S) mE (by omega) (fun b c hv hc hm => ?_)
  subst hv
  (repeat (refine gG ?_; try intro _))
  rename_i g3
  obtain ⟨d0, hd0⟩ : ∃ d, S[a]? = some d := ⟨S[a], List.getElem?_eq_getElem hlt⟩
  have hcl : ∀ w1, Kn (finE (dkF g ⟨.slice (some ⟨b, 0, none⟩) S.length c, lv, S, W⟩) w) w w1 [blk g3 [.int .i64 a, .slice xA xn xc] 118, blk g [.slice (some ⟨b, 0, none⟩) S.length c, lv, .bool false, .int .i64 0] 75, own 0 36 1 (.slice (some ⟨b, 0, none⟩) S.length c) SE S, own 0 118 2 lv WE W, allF S secF, allF W wrF] [] → Sl w1 xA 1 (IE .u8) L := fun w1 hk => hk.pO (allF W wrF) mE _ hx
  refine gk_any [0, 1] (Cut _ (fun _ : {d : SecD // d.Ok ∧ d.L = L} => []) (fun d => [blk g [.slice (some ⟨b, 0, none⟩) S.length c, lv, .bool false, .int .i64 0] 75, own 0 36 1 (.slice (some ⟨b, 0, none⟩) S.length c) SE (S.set a d.1), own 0 118 2 lv WE W, allF S secF, allF W wrF, secF d.1]) (fun _ => [])) rfl rfl (by kernel_rfl) ?_ (cut_k fun d => ?_)
  · skip
    refine gb_take 0 rfl (by decide +kernel) rfl rfl (ys_ev (nw := true) hT rfl sI) sF ?_
    refine gb_take 1 rfl (by decide +kernel) rfl rfl (ys_ev (nw := true) hT rfl sI) sF ?_
    refine gb_take 2 rfl (by decide +kernel) rfl rfl (ys_ev (nw := true) hT rfl sI) sF ?_
    refine gb_take 3 rfl (by decide +kernel) rfl rfl (by first | exact ys_blk hT rfl rfl mE rfl rfl | exact ys_row hT rfl rfl mE rfl rfl | exact ys_row0 hT rfl rfl mE rfl rfl) sF ?_
    refine gb_take 4 rfl (by decide +kernel) rfl rfl (ys_ev (nw := true) hT rfl sI) sF ?_
    refine gb_take 5 rfl (by decide +kernel) rfl rfl (by first | exact ys_blk hT rfl rfl mE rfl rfl | exact ys_row hT rfl rfl mE rfl rfl | exact ys_row0 hT rfl rfl mE rfl rfl) sF ?_
    refine gb_take 6 rfl (by decide +kernel) rfl rfl (ys_ev (nw := true) hT rfl sI) sF ?_
    refine gb_take 7 rfl (by decide +kernel) rfl rfl (by first | exact ys_blk hT rfl rfl mE rfl rfl | exact ys_row hT rfl rfl mE rfl rfl | exact ys_row0 hT rfl rfl mE rfl rfl) sF ?_
    refine gb_only 8 (by decide +kernel) rfl rfl ?_
    refine mv_call_rt (fun w hk => clone_B xA xn xc L w hxn (by omega) (hcl w hk)) rfl rfl rfl rfl rfl (by kernel_rfl) (fun _ => rfl) (fun s hs => ?_)
    refine ⟨sF, ?_⟩
    refine gb_take 9 rfl (by decide +kernel) rfl rfl (ys_ev (nw := true) hT rfl sI) sF ?_
    refine gb_only 10 (by decide +kernel) rfl rfl ?_
    refine mv_store_own (enc := SE) (sz := 1) hT a 0 d0 ⟨s, L⟩ rfl rfl (by omega) rfl rfl rfl rfl hd0 (by decide) (fun b hb hne => by omega) rfl (by first | ((repeat (first | with_reducible exact Upd.here _ | with_reducible apply Upd.there)); done) | ((repeat (first | exact Upd.here _ | apply Upd.there)); done) | fail) rfl ?_
    refine ⟨sF, ?_⟩
    refine gb_nil (by decide +kernel) ?_
    exact ⟨⟨⟨s, L⟩, ⟨hs, hx8⟩, rfl⟩, (by repeat (first | exact trivial | refine ⟨rfl, ?_⟩)), sA, sS⟩
  · obtain ⟨d, hd, hdL⟩ := d
    refine gk_derO [allF S secF, secF d] [blk g [.slice (some ⟨b, 0, none⟩) S.length c, lv, .bool false, .int .i64 0] 75, own 0 36 1 (.slice (some ⟨b, 0, none⟩) S.length c) SE (S.set a d), own 0 118 2 lv WE W, allF W wrF] (all_set (i := a)) sA ?_
    refine gk_fin hT rfl rfl .nil (fun w' hk => ?_)
    exact RetM.mkP (ll := fun d => dkL g ⟨.slice (some ⟨b, 0, none⟩) S.length c, lv, S.set a d, W⟩) d ⟨hd, hdL⟩ rfl hk hfin sA
end Go.Proofs.Yteajefmnbalofaa.Dk
