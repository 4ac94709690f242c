/- A disk, as memory has it; spend, done. -/
import Derived.Test.YtokhfkbbhdaghaaGreatGxY
import Derived.Test.YtokhfkbbhdaghaaGreatDk0
import Derived.Test.YtokhfkbbhdaghaaGreatDk1
namespace Go.Proofs.YtokhfkbbhdaghaaGreat.Dk
open Go.RowKit Mem Gx Bytes
set_option linter.unusedVariables false
set_option linter.unusedSimpArgs false
set_option maxRecDepth 100000
set_option maxHeartbeats 1000000
/-- A sector, as memory has it. -/
structure SecD where
  s : SlV
  L : List Int
instance : Inhabited SecD := ⟨⟨⟨none, 0, 0⟩, []⟩⟩
/-- A late write. -/
structure WrD where
  a : Nat
  d : SecD
instance : Inhabited WrD := ⟨⟨0, default⟩⟩
def SE : SecD → Nat → Value := fun x _ => .slice x.s.A x.s.n x.s.c
def WE : WrD → Nat → Value := fun x k => match k with
  | 0 => .int .i64 x.a
  | _ => .slice x.d.s.A x.d.s.n x.d.s.c
def WrD.val (x : WrD) : Value := .agg #[.int .i64 x.a, .slice x.d.s.A x.d.s.n x.d.s.c]
abbrev secF (d : SecD) : Fact := sl d.s.A 1 (IE .u8) d.L
abbrev wrF (x : WrD) : Fact := sl x.d.s.A 1 (IE .u8) x.d.L
structure SecD.Ok (d : SecD) : Prop where
  s : d.s.Ok d.L.length
  k : SecOk d.L
theorem elt_S : Elt Tryz.prog 63 23 1 24 := Elt.mk' (z := .slice none 0 0) Tryz.underlying63 (by kernel_rfl) rfl (by decide)
theorem elt_W : Elt Tryz.prog 64 71 2 32 := Elt.mk' (z := .agg #[.int .i64 0, .slice none 0 0]) Tryz.underlying64 (by kernel_rfl) rfl (by decide)
theorem oneS : ∀ (x : SecD) (j : Nat), (SE x j).oneCell' = true := by intro x j; rfl
theorem oneW : ∀ (x : WrD) (j : Nat), (WE x j).oneCell' = true := by intro x j; rcases j with _ | j <;> rfl
/-- What is sure, what is late, and where they lie. -/
structure DkS where
  sv : Value
  lv : Value
  S : List SecD
  W : List WrD
structure DkS.Ok (s : DkS) : Prop where
  S : ∀ d ∈ s.S, d.Ok
  W : ∀ x ∈ s.W, x.d.Ok ∧ x.a < s.S.length
  n : s.S.length ≤ 4096
def DkS.cS (s : DkS) : List Sec := s.S.map SecD.L
def DkS.cW (s : DkS) : List Wr := s.W.map fun x => (x.a, x.d.L)
abbrev dkL (g : Nat) (s : DkS) : List Fact := [blk g [s.sv, s.lv, .bool false, .int .i64 0] 66, own 0 23 1 s.sv SE s.S, own 0 71 2 s.lv WE s.W, allF s.S secF, allF s.W wrF]
abbrev dkF (g : Nat) (s : DkS) : Fact := packF (dkL g s)
theorem dk_fin (g : Nat) (s : DkS) {w : World} (h : Rd1 w (dkF g s)) (b : Nat) : b ∈ finE (dkF g s) w ↔ (dkF g s).S b := finE_mem h.2 b
theorem all_set {S : List SecD} {i : Nat} {d : SecD} : Der [allF S secF, secF d] (allF (S.set i d) secF) := .all fun x hx => by
  rcases List.mem_or_eq_of_mem_set hx with h | rfl
  · exact Der.elem (L := S) (F := secF) (.mem (.head _)) h
  · exact .mem (.tail _ (.head _))
theorem all_snoc {W : List WrD} {x : WrD} : Der [allF W wrF, wrF x] (allF (W ++ [x]) wrF) := .all fun y hy => by
  rcases List.mem_append.1 hy with h | h
  · exact Der.elem (L := W) (F := wrF) (.mem (.head _)) h
  · obtain rfl := List.mem_singleton.1 h
    exact .mem (.tail _ (.head _))
theorem dead_any (g : Nat) (sv lv : Value) (w : World) (hB : Rd1 w (blk g [sv, lv, .bool false, .int .i64 0] 66)) : Calls Tryz.prog 41 [.pointer (some ⟨g, 0, none⟩)].toArray w fun e w' => e = .returned (.bool false) ∧ Below w.heap.size w w' := by
  refine g_enter0 T [] [] [blk g [sv, lv, .bool false, .int .i64 0] 66] Tryz.func41 rfl Tryz.ntmps41 rfl (Rds.cons hB .nil).kn ?_
  refine gk_rowR (g := g) mE ?_
  (repeat' (first | (refine gG ?_; try intro _) | ((first | refine g_split rfl rfl tE (fun _ => ?_) (fun _ => ?_) | refine gk_cond rfl rfl tE (fun _ => ?_) (fun _ => ?_)) <;> (try first | (exfalso; omega; done) | (rename_i hx; exact absurd rfl hx) | (rename_i hx; cases hx; done)))))
  refine gk_ret hT rfl rfl (.tmp rfl .nil) (fun w' hk => ?_)
  exact ⟨rfl, hk.toBelow⟩
theorem spend_any (g : Nat) (sv lv : Value) (w : World) (hB : Rd1 w (blk g [sv, lv, .bool false, .int .i64 0] 66)) : Calls Tryz.prog 22 [.pointer (some ⟨g, 0, none⟩)].toArray w fun e w' => e = .returned (.bool true) ∧ Below w.heap.size w w' := by
  refine g_enter0 T [] [] [blk g [sv, lv, .bool false, .int .i64 0] 66] Tryz.func22 rfl Tryz.ntmps22 rfl (Rds.cons hB .nil).kn ?_
  (repeat' (first | (refine gG ?_; try intro _) | (refine g_mv rfl ?_; first | refine mv_call_bel (fun w hk => dead_any g sv lv w (hk.rR mE)) rfl rfl rfl rfl rfl (by kernel_rfl) ?_) | ((first | refine g_split rfl rfl tE (fun _ => ?_) (fun _ => ?_) | refine gk_cond rfl rfl tE (fun _ => ?_) (fun _ => ?_)) <;> (try first | (exfalso; omega; done) | (rename_i hx; exact absurd rfl hx) | (rename_i hx; cases hx; done)))))
  refine g_rowR (g := g) mE ?_
  (repeat' (first | (refine gG ?_; try intro _) | ((first | refine g_split rfl rfl tE (fun _ => ?_) (fun _ => ?_) | refine gk_cond rfl rfl tE (fun _ => ?_) (fun _ => ?_)) <;> (try first | (exfalso; omega; done) | (rename_i hx; exact absurd rfl hx) | (rename_i hx; cases hx; done)))))
  refine gk_ret hT rfl rfl (.tmp rfl .nil) (fun w' hk => ?_)
  exact ⟨rfl, hk.toBelow⟩
end Go.Proofs.YtokhfkbbhdaghaaGreat.Dk
