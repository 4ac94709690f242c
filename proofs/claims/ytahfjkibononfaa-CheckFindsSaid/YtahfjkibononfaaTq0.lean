/- tree.Len, Root, New. -/
import Derived.Test.YtahfjkibononfaaTrA
import Derived.Test.YtahfjkibononfaaTw
namespace Go.Proofs.Ytahfjkibononfaa.Tw
open Go.RowKit Mem Nd Gx Sk
open Tr hiding T row
set_option linter.unusedVariables false
set_option linter.unusedSimpArgs false
set_option maxRecDepth 100000
set_option maxHeartbeats 4000000
/-- An entry, or none, as it is handed back. -/
def oV : Option EntD → Value
  | none => .agg #[.int .u16 0, .int .u32 0, .int .u64 0, .int .u32 0]
  | some y => y.val
/-! Len, Root, New, Copy, Depth -/
theorem tlen_any (tg : Nat) (v : Value) (n : Int) (w : World) (hB : Rd1 w (blk tg [v, .int .i64 n] 63)) :
    Calls Try.prog 29 [.pointer (some ⟨tg, 0, none⟩)].toArray w fun e w' => e = .returned (.int .i64 n) ∧ Below w.heap.size w w' := by
  refine g_enter0 T [] [] [row tg 0 [v, .int .i64 n]] Try.func29 rfl Try.ntmps29 rfl (Rds.cons hB.row .nil).kn ?_
  (repeat (refine gG ?_; try intro _))
  refine gk_ret hT rfl rfl (.tmp rfl .nil) (fun w' hk => ?_)
  exact ⟨rfl, hk.toBelow⟩
theorem troot_any (tg : Nat) (v : Value) (n : Int) (w : World) (hB : Rd1 w (blk tg [v, .int .i64 n] 63)) :
    Calls Try.prog 17 [.pointer (some ⟨tg, 0, none⟩)].toArray w fun e w' => e = .returned v ∧ Below w.heap.size w w' := by
  refine g_enter0 T [] [] [row tg 0 [v, .int .i64 n]] Try.func17 rfl Try.ntmps17 rfl (Rds.cons hB.row .nil).kn ?_
  (repeat (refine gG ?_; try intro _))
  refine gk_ret hT rfl rfl (.tmp rfl .nil) (fun w' hk => ?_)
  exact ⟨rfl, hk.toBelow⟩
theorem tnew_some (g : Nat) (n : Int) (w : World) : Calls Try.prog 11 [.pointer (some ⟨g, 0, none⟩), .int .i64 n].toArray w (Ret (fun _ : Nat => True) (fun r => .pointer (some ⟨r, 0, none⟩)) (fun r => [blk r [.pointer (some ⟨g, 0, none⟩), .int .i64 n] 63]) w) := by
  refine g_enter0 T [] [] [] Try.func11 rfl Try.ntmps11 rfl (Kn.start _) ?_
  (repeat (refine gG ?_; try intro _))
  rename_i r
  refine gk_ret hT rfl rfl (.tmp rfl .nil) (fun w' hk => ?_)
  exact Ret.mk r trivial rfl hk sA
theorem tnew_none (n : Int) (w : World) : Calls Try.prog 11 [.pointer none, .int .i64 n].toArray w (Ret (fun _ : Nat => True) (fun r => .pointer (some ⟨r, 0, none⟩)) (fun r => [blk r [.pointer none, .int .i64 n] 63]) w) := by
  refine g_enter0 T [] [] [] Try.func11 rfl Try.ntmps11 rfl (Kn.start _) ?_
  (repeat (refine gG ?_; try intro _))
  rename_i r
  refine gk_ret hT rfl rfl (.tmp rfl .nil) (fun w' hk => ?_)
  exact Ret.mk r trivial rfl hk sA
end Go.Proofs.Ytahfjkibononfaa.Tw

