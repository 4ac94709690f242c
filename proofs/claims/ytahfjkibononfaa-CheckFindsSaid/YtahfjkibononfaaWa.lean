/- walk.All, Volume, Block, Count; the law's first: what they give of any tree. -/
import Derived.Test.YtahfjkibononfaaWr
import Derived.Test.YtahfjkibononfaaWi
namespace Go.Proofs.Ytahfjkibononfaa.Wk
open Go.RowKit Mem Nd Gx Sk Tw
open Tr hiding T row
set_option linter.unusedVariables false
set_option linter.unusedSimpArgs false
set_option maxRecDepth 100000
set_option maxHeartbeats 1000000
theorem win_le (f t : KeyD) (l : List EntD) : (win f t l).length ≤ l.length := List.length_filter_le ..
def maxK : KeyD := ⟨65535, 4294967295, 18446744073709551615⟩
theorem end_any (w : World) : Calls Try.prog 39 #[] w fun e w' => e = .returned (.agg #[.int .u16 65535, .int .u32 4294967295, .int .u64 18446744073709551615]) ∧ Below w.heap.size w w' := by
  refine g_enter0 T [] [] [] Try.func39 rfl Try.ntmps39 rfl (Kn.start _) ?_
  (repeat (refine gG ?_; try intro _))
  refine gk_ret hT rfl rfl (.cell rfl mE rfl rfl .nil) (fun w' hk => ?_)
  exact ⟨rfl, hk.toBelow⟩
theorem kfirst_any (v b : Int) (w : World) : Calls Try.prog 40 [.int .u16 v, .int .u32 b].toArray w fun e w' => e = .returned (.agg #[.int .u16 v, .int .u32 b, .int .u64 0]) ∧ Below w.heap.size w w' := by
  refine g_enter0 T [] [] [] Try.func40 rfl Try.ntmps40 rfl (Kn.start _) ?_
  (repeat (refine gG ?_; try intro _))
  refine gk_ret hT rfl rfl (.cell rfl mE rfl rfl .nil) (fun w' hk => ?_)
  exact ⟨rfl, hk.toBelow⟩
theorem klast_any (v b : Int) (w : World) : Calls Try.prog 41 [.int .u16 v, .int .u32 b].toArray w fun e w' => e = .returned (.agg #[.int .u16 v, .int .u32 b, .int .u64 18446744073709551615]) ∧ Below w.heap.size w w' := by
  refine g_enter0 T [] [] [] Try.func41 rfl Try.ntmps41 rfl (Kn.start _) ?_
  (repeat (refine gG ?_; try intro _))
  refine gk_ret hT rfl rfl (.cell rfl mE rfl rfl .nil) (fun w' hk => ?_)
  exact ⟨rfl, hk.toBelow⟩
theorem all_any (a : Option AT) (tg : Nat) (n : Int) (f t : KeyD) (ys : List (Tr.T 0)) (w : World) (ef : f = ⟨0, 0, 0⟩) (et : t = maxK) (hl : LvO a f ys) (hu : UpTo t (rows ys)) (h9 : (rows ys).length ≤ 10000) (hB : Rd1 w (blk tg [rootV a, .int .i64 n] 63)) (hF : Rd1 w (stF a)) :
    Calls Try.prog 23 [.pointer (some ⟨tg, 0, none⟩)].toArray w (Ret (fun _ : Value => True) (fun v => v) (fun v => [own 0 29 4 v EE (win f t (rows ys))]) w) := by
  refine g_enter0 T [] [] [blk tg [rootV a, .int .i64 n] 63, stF a] Try.func23 rfl Try.ntmps23 rfl (Rds.cons hB (.cons hF .nil)).kn ?_
  (repeat' (first | (refine gG ?_; try intro _) | (refine g_mv rfl ?_; first | refine mv_call_bel (fun w hk => end_any w) rfl rfl rfl rfl rfl (by kernel_rfl) ?_) | ((first | refine g_split rfl rfl tE (fun _ => ?_) (fun _ => ?_) | refine gk_cond rfl rfl tE (fun _ => ?_) (fun _ => ?_)) <;> (try first | (exfalso; omega; done) | (rename_i hx; exact absurd rfl hx) | (rename_i hx; cases hx; done)))))
  refine g_mv rfl ?_; refine mv_call_rt (fun w hk => range_any tg ⟨0, 0, 0⟩ maxK w) rfl rfl rfl rfl rfl (by kernel_rfl) (fun _ => rfl) (fun s _ => ?_)
  rw [← ef, ← et]
  obtain ⟨ct, cf, co⟩ := s
  dsimp only
  refine g_share (φ := blk co [.int .u16 t.v, .int .u32 t.b, .int .u64 t.s] 27) (by repeat (first | with_reducible exact Sel.here | with_reducible apply Sel.there)) ?_
  refine g_share (φ := blk cf [.int .u16 f.v, .int .u32 f.b, .int .u64 f.s] 27) (by repeat (first | with_reducible exact Sel.here | with_reducible apply Sel.there)) ?_
  refine g_share (φ := blk ct [.pointer (some ⟨tg, 0, none⟩)] 42) (by repeat (first | with_reducible exact Sel.here | with_reducible apply Sel.there)) ?_
  refine g_mv rfl ?_; refine mv_call_rt (fun w hk => list_any 55 [.pointer (some ⟨ct, 0, none⟩), .pointer (some ⟨cf, 0, none⟩), .pointer (some ⟨co, 0, none⟩)] (win f t (rows ys)) (rgR a f t tg ct cf co n) w (by kernel_rfl) (.cons (hk.rR mE) (.cons (hk.rR mE) (.cons (hk.rR mE) (.cons (hk.rR mE) (.cons (hk.rR mE) .nil))))) (fun w' hB' => range_iter a f t tg ct cf co n ys w' hl hu hB') (Nat.le_trans (win_le f t _) h9)) rfl rfl rfl rfl rfl (by kernel_rfl) (fun _ => rfl) (fun v _ => ?_)
  (repeat (refine gG ?_; try intro _))
  refine gk_ret hT rfl rfl (.tmp rfl .nil) (fun w' hk => ?_)
  exact Ret.mk v trivial rfl hk sA
theorem volume_any (a : Option AT) (tg : Nat) (n : Int) (x : Int) (f t : KeyD) (ys : List (Tr.T 0)) (w : World) (ef : f = ⟨x, 0, 0⟩) (et : t = ⟨x, 4294967295, 18446744073709551615⟩) (hl : LvO a f ys) (hu : UpTo t (rows ys)) (h9 : (rows ys).length ≤ 10000) (hB : Rd1 w (blk tg [rootV a, .int .i64 n] 63)) (hF : Rd1 w (stF a)) :
    Calls Try.prog 24 [.pointer (some ⟨tg, 0, none⟩), .int .u16 x].toArray w (Ret (fun _ : Value => True) (fun v => v) (fun v => [own 0 29 4 v EE (win f t (rows ys))]) w) := by
  refine g_enter0 T [] [] [blk tg [rootV a, .int .i64 n] 63, stF a] Try.func24 rfl Try.ntmps24 rfl (Rds.cons hB (.cons hF .nil)).kn ?_
  (repeat (refine gG ?_; try intro _))
  refine g_mv rfl ?_; refine mv_call_rt (fun w hk => range_any tg ⟨x, 0, 0⟩ ⟨x, 4294967295, 18446744073709551615⟩ w) rfl rfl rfl rfl rfl (by kernel_rfl) (fun _ => rfl) (fun s _ => ?_)
  rw [← ef, ← et]
  obtain ⟨ct, cf, co⟩ := s
  dsimp only
  refine g_share (φ := blk co [.int .u16 t.v, .int .u32 t.b, .int .u64 t.s] 27) (by repeat (first | with_reducible exact Sel.here | with_reducible apply Sel.there)) ?_
  refine g_share (φ := blk cf [.int .u16 f.v, .int .u32 f.b, .int .u64 f.s] 27) (by repeat (first | with_reducible exact Sel.here | with_reducible apply Sel.there)) ?_
  refine g_share (φ := blk ct [.pointer (some ⟨tg, 0, none⟩)] 42) (by repeat (first | with_reducible exact Sel.here | with_reducible apply Sel.there)) ?_
  refine g_mv rfl ?_; refine mv_call_rt (fun w hk => list_any 55 [.pointer (some ⟨ct, 0, none⟩), .pointer (some ⟨cf, 0, none⟩), .pointer (some ⟨co, 0, none⟩)] (win f t (rows ys)) (rgR a f t tg ct cf co n) w (by kernel_rfl) (.cons (hk.rR mE) (.cons (hk.rR mE) (.cons (hk.rR mE) (.cons (hk.rR mE) (.cons (hk.rR mE) .nil))))) (fun w' hB' => range_iter a f t tg ct cf co n ys w' hl hu hB') (Nat.le_trans (win_le f t _) h9)) rfl rfl rfl rfl rfl (by kernel_rfl) (fun _ => rfl) (fun v _ => ?_)
  (repeat (refine gG ?_; try intro _))
  refine gk_ret hT rfl rfl (.tmp rfl .nil) (fun w' hk => ?_)
  exact Ret.mk v trivial rfl hk sA
theorem block_any (a : Option AT) (tg : Nat) (n : Int) (x y : Int) (f t : KeyD) (ys : List (Tr.T 0)) (w : World) (ef : f = ⟨x, y, 0⟩) (et : t = ⟨x, y, 18446744073709551615⟩) (hl : LvO a f ys) (hu : UpTo t (rows ys)) (h9 : (rows ys).length ≤ 10000) (hB : Rd1 w (blk tg [rootV a, .int .i64 n] 63)) (hF : Rd1 w (stF a)) :
    Calls Try.prog 25 [.pointer (some ⟨tg, 0, none⟩), .int .u16 x, .int .u32 y].toArray w (Ret (fun _ : Value => True) (fun v => v) (fun v => [own 0 29 4 v EE (win f t (rows ys))]) w) := by
  refine g_enter0 T [] [] [blk tg [rootV a, .int .i64 n] 63, stF a] Try.func25 rfl Try.ntmps25 rfl (Rds.cons hB (.cons hF .nil)).kn ?_
  (repeat' (first | (refine gG ?_; try intro _) | (refine g_mv rfl ?_; first | refine mv_call_bel (fun w hk => kfirst_any x y w) rfl rfl rfl rfl rfl (by kernel_rfl) ?_ | refine mv_call_bel (fun w hk => klast_any x y w) rfl rfl rfl rfl rfl (by kernel_rfl) ?_) | ((first | refine g_split rfl rfl tE (fun _ => ?_) (fun _ => ?_) | refine gk_cond rfl rfl tE (fun _ => ?_) (fun _ => ?_)) <;> (try first | (exfalso; omega; done) | (rename_i hx; exact absurd rfl hx) | (rename_i hx; cases hx; done)))))
  refine g_mv rfl ?_; refine mv_call_rt (fun w hk => range_any tg ⟨x, y, 0⟩ ⟨x, y, 18446744073709551615⟩ w) rfl rfl rfl rfl rfl (by kernel_rfl) (fun _ => rfl) (fun s _ => ?_)
  rw [← ef, ← et]
  obtain ⟨ct, cf, co⟩ := s
  dsimp only
  refine g_share (φ := blk co [.int .u16 t.v, .int .u32 t.b, .int .u64 t.s] 27) (by repeat (first | with_reducible exact Sel.here | with_reducible apply Sel.there)) ?_
  refine g_share (φ := blk cf [.int .u16 f.v, .int .u32 f.b, .int .u64 f.s] 27) (by repeat (first | with_reducible exact Sel.here | with_reducible apply Sel.there)) ?_
  refine g_share (φ := blk ct [.pointer (some ⟨tg, 0, none⟩)] 42) (by repeat (first | with_reducible exact Sel.here | with_reducible apply Sel.there)) ?_
  refine g_mv rfl ?_; refine mv_call_rt (fun w hk => list_any 55 [.pointer (some ⟨ct, 0, none⟩), .pointer (some ⟨cf, 0, none⟩), .pointer (some ⟨co, 0, none⟩)] (win f t (rows ys)) (rgR a f t tg ct cf co n) w (by kernel_rfl) (.cons (hk.rR mE) (.cons (hk.rR mE) (.cons (hk.rR mE) (.cons (hk.rR mE) (.cons (hk.rR mE) .nil))))) (fun w' hB' => range_iter a f t tg ct cf co n ys w' hl hu hB') (Nat.le_trans (win_le f t _) h9)) rfl rfl rfl rfl rfl (by kernel_rfl) (fun _ => rfl) (fun v _ => ?_)
  (repeat (refine gG ?_; try intro _))
  refine gk_ret hT rfl rfl (.tmp rfl .nil) (fun w' hk => ?_)
  exact Ret.mk v trivial rfl hk sA
theorem count_any (a : Option AT) (f t : KeyD) (tg : Nat) (n : Int) (ys : List (Tr.T 0)) (w : World) (hl : LvO a f ys) (hu : UpTo t (rows ys)) (h9 : (rows ys).length ≤ 10000) (hB : Rd1 w (blk tg [rootV a, .int .i64 n] 63)) (hF : Rd1 w (stF a)) :
    Calls Try.prog 22 [.pointer (some ⟨tg, 0, none⟩), f.val, t.val].toArray w fun e w' => e = .returned (.int .i64 ((win f t (rows ys)).length : Int)) ∧ Below w.heap.size w w' := by
  refine g_enter0 T [] [] [blk tg [rootV a, .int .i64 n] 63, stF a] Try.func22 rfl Try.ntmps22 rfl (Rds.cons hB (.cons hF .nil)).kn ?_
  (repeat (refine gG ?_; try intro _))
  rename_i g4 g5 g7
  refine g_mv rfl ?_; refine mv_call_rt (fun w hk => range_any tg f t w) rfl rfl rfl rfl rfl (by kernel_rfl) (fun _ => rfl) (fun s _ => ?_)
  (repeat (refine gG ?_; try intro _))
  obtain ⟨ct, cf, co⟩ := s
  dsimp only
  refine gk_share (φ := blk co [.int .u16 t.v, .int .u32 t.b, .int .u64 t.s] 27) (by repeat (first | with_reducible exact Sel.here | with_reducible apply Sel.there)) ?_
  refine gk_share (φ := blk cf [.int .u16 f.v, .int .u32 f.b, .int .u64 f.s] 27) (by repeat (first | with_reducible exact Sel.here | with_reducible apply Sel.there)) ?_
  refine gk_share (φ := blk ct [.pointer (some ⟨tg, 0, none⟩)] 42) (by repeat (first | with_reducible exact Sel.here | with_reducible apply Sel.there)) ?_
  have hwl := win_le f t (rows ys)
  refine gk_range (σ := Nat) (σx := Unit) (α := EntD) (enc := fun e : EntD => [e.val]) (xs := win f t (rows ys)) (RA := rgR a f t tg ct cf co n) (pl := [12]) (gf := 55) (caps := [.pointer (some ⟨ct, 0, none⟩), .pointer (some ⟨cf, 0, none⟩), .pointer (some ⟨co, 0, none⟩)])
    (fun q s => s = q) (fun s => [blk g7 [.int .i64 (s : Int)] 3]) (fun _ _ => False) (fun _ _ => []) 0 [] rfl rfl (by kernel_rfl) rfl (fun _ => rfl) (fun w hk => range_iter a f t tg ct cf co n ys w hl hu (.cons (hk.rR mE) (.cons (hk.rR mE) (.cons (hk.rR mE) (.cons (hk.rR mE) (.cons (hk.rR mE) .nil)))))) sS rfl sA (fun L p x s w hX hRc hI hOO hOut hOX hx hi hup => ?_) (fun D s hi => ?_) (fun D c y hy => hy.elim)
  · skip
    obtain ⟨X', l', D, rc, Inv', OO', Out', OX'⟩ := L
    dsimp only at hX hI hOO hOut hOX
    subst hX hI hOO hOut hOX
    subst hi
    have hp := (List.getElem?_eq_some_iff.1 hx).1
    change GK _ _ _ [recF l' (rc .ready none), dfr D, blk g7 [.int .i64 (s : Int)] 3] _
    (repeat (refine gG ?_; try intro _))
    refine gk_begin rfl (by repeat (first | with_reducible exact Sel.here | with_reducible apply Sel.there)) (hRc.st _ _) (fun bF hbF => ?_)
    (repeat (refine gG ?_; try intro _))
    refine gk_round hRc (s + 1) rfl rfl [blk g7 [.int .i64 ((s : Int) + 1)] 3] (by show [blk g7 [.int .i64 ((s + 1 : Nat) : Int)] 3] = _; rfl) hbF sA
  · subst hi
    change GK _ _ _ [dfr D, blk g7 [.int .i64 ((win f t (rows ys)).length : Int)] 3] _
    (repeat (refine gG ?_; try intro _))
    refine gk_retM hT (.cons (by repeat (first | with_reducible exact Sel.here | with_reducible apply Sel.there)) .nil) rfl rfl (.tmp rfl .nil) (fun w' hk => ?_)
    exact ⟨rfl, hk.toBelow⟩
end Go.Proofs.Ytahfjkibononfaa.Wk

