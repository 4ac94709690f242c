/- Pages by places, as memory has them: New, touch, oldest, Told, Clear, Drop. -/
import Derived.Test.YtajbjbhlpcmddaaGxY
import Derived.Test.YtajbjbhlpcmddaaLr1
import Derived.Test.YtajbjbhlpcmddaaDk2
namespace Go.Proofs.Ytajbjbhlpcmddaa.Dk
open Go.RowKit Mem Gx Bytes
set_option linter.unusedVariables false
set_option linter.unusedSimpArgs false
set_option maxRecDepth 100000
set_option maxHeartbeats 1000000
abbrev itF (p : Itm) : Fact := sl p.2.s.A 1 (IE .u8) p.2.L
structure LrS where
  r : Nat
  mo : Nat
  now : Nat
  hit : Nat
  miss : Nat
  M : List Itm
abbrev lrL (c : Nat) (s : LrS) : List Fact := [blk c [.map (some s.r), .int .i64 (s.mo : Nat), .int .u64 (s.now : Nat), .int .i64 (s.hit : Nat), .int .i64 (s.miss : Nat)] 103, mpk s.r (Value.int .i64) (vals s.M), allF s.M itF]
abbrev lrF (c : Nat) (s : LrS) : Fact := packF (lrL c s)
structure ItD.Ok (x : ItD) : Prop where
  s : x.s.Ok x.L.length
  k : SecOk x.L
theorem kok_i : KOk Try.prog 3 (Value.int .i64) := kok_int Try.underlying3
theorem z_item : ∀ w, (zeroValue 105).run Try.prog w = .ok (.agg #[.slice none 0 0, .int .u64 0]) w := fun w => by kernel_rfl
theorem lnew_any (most : Int) (w : World) :
    Calls Try.prog 32 [.int .i64 most].toArray w (Ret (fun q : Nat × Nat × Nat => (q.2.2 : Int) = min (max most 0) 4096) (fun q => .pointer (some ⟨q.1, 0, none⟩)) (fun q => [lrF q.1 ⟨q.2.1, q.2.2, 0, 0, 0, []⟩]) w) := by
  obtain ⟨mo, hmo⟩ : ∃ mo : Nat, (mo : Int) = min (max most 0) 4096 := ⟨(min (max most 0) 4096).toNat, by omega⟩
  refine g_enter0 T [] [] [] Try.func32 rfl Try.ntmps32 rfl (Kn.start _) ?_
  (repeat (refine gG ?_; try intro _))
  refine g_mv rfl (mv_makeMapG rfl (Value.int .i64) rfl (fun r => ?_))
  (repeat (refine gG ?_; try intro _))
  refine g_yd rfl rfl (Ys.yd (ys_max (max most 0) rfl rfl rfl (by split <;> omega))) ?_
  (repeat (refine gG ?_; try intro _))
  refine g_yd rfl rfl (Ys.yd (ys_min (mo : Int) rfl rfl rfl (by rw [hmo]; split <;> omega))) ?_
  (repeat (refine gG ?_; try intro _))
  rename_i g8
  refine gk_derO [] [blk g8 [.map (some r), .int .i64 (mo : Nat), .int .u64 0, .int .i64 0, .int .i64 0] 103, mpk r (Value.int .i64) (vals [])] (φ := allF ([] : List Itm) itF) (.all fun x hx => by cases hx) sA ?_
  refine gk_pack (lrL g8 ⟨r, mo, 0, 0, 0, []⟩) [] sA ?_
  refine gk_ret hT rfl rfl (.tmp rfl .nil) (fun w' hk => ?_)
  exact Ret.mk (g8, r, mo) hmo rfl hk sA
theorem ltold_any (c : Nat) (s : LrS) (w : World) (h : Rd1 w (lrF c s)) :
    Calls Try.prog 44 [.pointer (some ⟨c, 0, none⟩)].toArray w fun e w' => e = .returned (.tuple #[.int .i64 (s.hit : Nat), .int .i64 (s.miss : Nat)]) ∧ Below w.heap.size w w' := by
  obtain ⟨r, mo, now, hit, miss, M⟩ := s
  refine g_enter0 T [] [] [blk c [.map (some r), .int .i64 (mo : Nat), .int .u64 (now : Nat), .int .i64 hit, .int .i64 miss] 103] Try.func44 rfl Try.ntmps44 rfl (Rds.cons (Rd1.unpack h (.head _)) .nil).kn ?_
  refine gk_rowR (g := c) mE ?_
  (repeat (refine gG ?_; try intro _))
  refine gk_any [0] (Cut _ (fun _ : Unit => [(2, .int .i64 (hit : Nat)), (3, .int .i64 (miss : Nat))]) (fun _ => []) (fun _ => [])) rfl rfl (by kernel_rfl) ?_ (cut_k fun _ => ?_)
  · skip
    refine gb_take 0 rfl (by decide +kernel) rfl rfl (ys_ev (nw := true) hT rfl sI) sF ?_
    refine gb_take 1 rfl (by decide +kernel) rfl rfl (ys_ev (nw := true) hT rfl sI) sF ?_
    refine gb_take 2 rfl (by decide +kernel) rfl rfl (ys_ev (nw := true) hT rfl sI) sF ?_
    refine gb_take 3 rfl (by decide +kernel) rfl rfl (by first | exact ys_blk hT rfl rfl mE rfl rfl | exact ys_row hT rfl rfl mE rfl rfl | exact ys_row0 hT rfl rfl mE rfl rfl) sF ?_
    refine gb_take 4 rfl (by decide +kernel) rfl rfl (ys_ev (nw := true) hT rfl sI) sF ?_
    refine gb_take 5 rfl (by decide +kernel) rfl rfl (ys_ev (nw := true) hT rfl sI) sF ?_
    refine gb_take 6 rfl (by decide +kernel) rfl rfl (ys_ev (nw := true) hT rfl sI) sF ?_
    refine gb_take 7 rfl (by decide +kernel) rfl rfl (by first | exact ys_blk hT rfl rfl mE rfl rfl | exact ys_row hT rfl rfl mE rfl rfl | exact ys_row0 hT rfl rfl mE rfl rfl) sF ?_
    refine gb_take 8 rfl (by decide +kernel) rfl rfl (ys_ev (nw := true) hT rfl sI) sF ?_
    refine gb_take 9 rfl (by decide +kernel) rfl rfl (ys_ev (nw := true) hT rfl sI) sF ?_
    refine gb_nil (by decide +kernel) ?_
    exact ⟨(), (by repeat (first | exact trivial | refine ⟨rfl, ?_⟩)), sA, sS⟩
  · refine gk_ret hT rfl rfl (.tmp rfl (.tmp rfl .nil)) (fun w' hk => ?_)
    exact ⟨rfl, hk.toBelow⟩
theorem lclear_any (c : Nat) (r mo now hit miss : Nat) (M : List Itm) (w : World) (h : Rd1 w (lrF c ⟨r, mo, now, hit, miss, M⟩)) :
    Calls Try.prog 39 [.pointer (some ⟨c, 0, none⟩)].toArray w (RetM (lrF c ⟨r, mo, now, hit, miss, M⟩) (fun _ : Unit => True) (fun _ => .tuple #[]) (fun _ => lrF c ⟨r, mo, now, hit, miss, []⟩) w) := by
  refine g_enter0 T (finE (lrF c ⟨r, mo, now, hit, miss, M⟩) w) [blk c [.map (some r), .int .i64 (mo : Nat), .int .u64 (now : Nat), .int .i64 hit, .int .i64 miss] 103, mpk r (Value.int .i64) (vals M), allF M itF] [] Try.func39 rfl Try.ntmps39 rfl (Kn.startP h (fun b hb => (finE_mem h.2 b).2 hb) (fun ψ hψ => by cases hψ)) ?_
  (repeat (refine gG ?_; try intro _))
  refine g_mv rfl (mv_clearG rfl rfl rfl rfl rfl Try.underlying101 (by first | ((repeat (first | with_reducible exact Upd.here _ | with_reducible apply Upd.there)); done) | ((repeat (first | exact Upd.here _ | apply Upd.there)); done) | fail) ?_)
  (repeat (refine gG ?_; try intro _))
  refine gk_derO [] [blk c [.map (some r), .int .i64 (mo : Nat), .int .u64 (now : Nat), .int .i64 hit, .int .i64 miss] 103, mpk r (Value.int .i64) (vals [])] (φ := allF ([] : List Itm) itF) (.all fun x hx => by cases hx) sA ?_
  refine gk_fin hT rfl rfl .nil (fun w' hk => ?_)
  exact RetM.mkP (ll := fun _ : Unit => lrL c ⟨r, mo, now, hit, miss, []⟩) () trivial rfl hk (fun b hb => (finE_mem h.2 b).1 hb) sA
end Go.Proofs.Ytajbjbhlpcmddaa.Dk

