/- Pages by places: Put. -/
import Derived.Test.YtajbjbhlpcmddaaLr4
namespace Go.Proofs.Ytajbjbhlpcmddaa.Dk
open Go.RowKit Mem Gx Bytes
set_option linter.unusedVariables false
set_option linter.unusedSimpArgs false
set_option maxRecDepth 100000
set_option maxHeartbeats 1000000
/-- At most so many. -/
def trim (mo : Nat) (K : List Itm) : List Itm := if mo < K.length then K.tail else K
theorem put_any (c r mo now hit miss : Nat) (M K : List Itm) (at' : Int) (bA : Option Addr) (bn bc : Nat) (B : List Int) (w : World) (hi : LInv M K now) (h8 : now ≤ 100000) (hbn : bn = B.length) (hB : SecOk B) (h : Rd1 w (lrF c ⟨r, mo, now, hit, miss, M⟩)) (hb : Rd1 w (sl bA 1 (IE .u8) B)) (hbd : ∀ b, (lrF c ⟨r, mo, now, hit, miss, M⟩).S b → ¬ (sl bA 1 (IE .u8) B).S b) :
    Calls Try.prog 42 [.pointer (some ⟨c, 0, none⟩), .int .i64 at', .slice bA bn bc].toArray w (RetM (lrF c ⟨r, mo, now, hit, miss, M⟩) (fun q : SlV × List Itm => q.1.Ok B.length ∧ LInv q.2 (trim mo (rmv at' K ++ [(at', ⟨q.1, B, now + 1⟩)])) (now + 1)) (fun _ => .tuple #[]) (fun q => lrF c ⟨r, mo, now + 1, hit, miss, q.2⟩) w) := by
  have hx8 : B.length = 128 := hB.1
  have hfin : ∀ b, b ∈ finE (lrF c ⟨r, mo, now, hit, miss, M⟩) w → (lrF c ⟨r, mo, now, hit, miss, M⟩).S b := fun b hb => (finE_mem h.2 b).1 hb
  refine g_enter0 T (finE (lrF c ⟨r, mo, now, hit, miss, M⟩) w) [blk c [.map (some r), .int .i64 (mo : Nat), .int .u64 (now : Nat), .int .i64 (hit : Nat), .int .i64 (miss : Nat)] 103, mpk r (Value.int .i64) (vals M), allF M itF] [sl bA 1 (IE .u8) B] Try.func42 rfl Try.ntmps42 rfl (Kn.startP h (fun b hb => (finE_mem h.2 b).2 hb) (fun ψ hψ => by obtain rfl := List.mem_singleton.1 hψ; exact ⟨hb, hbd⟩)) ?_
  refine gk_own 0 5 1 (IE .u8) ?_
  (repeat (refine gG ?_; try intro _))
  refine g_mv rfl (mv_append (L := ([] : List Int)) rfl B rfl rfl rfl rfl elt_B (by intro _; first | ((repeat (first | with_reducible exact Upd.here _ | with_reducible apply Upd.there)); done) | ((repeat (first | exact Upd.here _ | apply Upd.there)); done) | fail) (src_R mE) hbn (by intro x j; rfl) (by simp [maxLen]; omega) (by simp; omega) (Nat.zero_le _) (fun v => ?_))
  refine g_ownv v mE (fun A2 c2 hv2 hA1 hA2 hA3 => ?_)
  subst hv2
  have hinv := hi.set at' (⟨⟨A2, B.length, c2⟩, B, now + 1⟩ : ItD) rfl
  have hM1 : ((setI at' (⟨⟨A2, B.length, c2⟩, B, now + 1⟩ : ItD) M)).length = ((rmv at' K ++ [(at', (⟨⟨A2, B.length, c2⟩, B, now + 1⟩ : ItD))])).length := hinv.perm.length_eq
  have hle1 := hinv.le
  have hk1 : 0 < ((rmv at' K ++ [(at', (⟨⟨A2, B.length, c2⟩, B, now + 1⟩ : ItD))])).length := by rw [List.length_append, List.length_singleton]; omega
  refine g_pack [blk c [.map (some r), .int .i64 (mo : Nat), .int .u64 (now : Nat), .int .i64 (hit : Nat), .int .i64 (miss : Nat)] 103, mpk r (Value.int .i64) (vals M)] [allF M itF, own 0 5 1 (.slice A2 ([] ++ B).length c2) (IE .u8) ([] ++ B)] sA ?_
  refine g_mv rfl (mv_call_mod (φ := packF [blk c [.map (some r), .int .i64 (mo : Nat), .int .u64 (now : Nat), .int .i64 (hit : Nat), .int .i64 (miss : Nat)] 103, mpk r (Value.int .i64) (vals M)]) (ψ := fun _ : Unit => packF [blk c [.map (some r), .int .i64 (mo : Nat), .int .u64 ((now + 1 : Nat) : Int), .int .i64 (hit : Nat), .int .i64 (miss : Nat)] 103, mpk r (Value.int .i64) (vals (setI at' (⟨⟨A2, B.length, c2⟩, B, now + 1⟩ : ItD) M))]) (fun w hk => by exact touch_any c r mo now hit miss M at' A2 B.length c2 B w h8 (hk.rO (φ := packF [blk c [.map (some r), .int .i64 (mo : Nat), .int .u64 (now : Nat), .int .i64 (hit : Nat), .int .i64 (miss : Nat)] 103, mpk r (Value.int .i64) (vals M)]) mE)) rfl rfl rfl rfl rfl (by kernel_rfl) (by intro _; first | ((repeat (first | with_reducible exact Upd.here _ | with_reducible apply Upd.there)); done) | ((repeat (first | exact Upd.here _ | apply Upd.there)); done) | fail) (fun _ _ => ?_))
  refine g_unpack (l := [blk c [.map (some r), .int .i64 (mo : Nat), .int .u64 ((now + 1 : Nat) : Int), .int .i64 (hit : Nat), .int .i64 (miss : Nat)] 103, mpk r (Value.int .i64) (vals (setI at' (⟨⟨A2, B.length, c2⟩, B, now + 1⟩ : ItD) M))]) (by repeat (first | with_reducible exact Sel.here | with_reducible apply Sel.there)) ?_
  (repeat (refine gG ?_; try intro _))
  refine gk_freeze (.slice A2 ([] ++ B).length c2) (fun A => (by first | ((repeat (first | with_reducible exact Upd.here _ | with_reducible apply Upd.there)); done) | ((repeat (first | exact Upd.here _ | apply Upd.there)); done) | fail)) (fun A c3 hv3 _ _ _ => ?_)
  injection hv3 with e1 e2 e3
  subst e1 e3
  refine gk_derO [allF M itF, sl A2 1 (IE .u8) B] [blk c [.map (some r), .int .i64 (mo : Nat), .int .u64 ((now + 1 : Nat) : Int), .int .i64 (hit : Nat), .int .i64 (miss : Nat)] 103, mpk r (Value.int .i64) (vals (setI at' (⟨⟨A2, B.length, c2⟩, B, now + 1⟩ : ItD) M))] (der_set (q := at') (it := (⟨⟨A2, B.length, c2⟩, B, now + 1⟩ : ItD))) sA ?_
  by_cases hgt : mo < ((rmv at' K ++ [(at', (⟨⟨A2, B.length, c2⟩, B, now + 1⟩ : ItD))])).length
  · have ht : trim mo (rmv at' K ++ [(at', (⟨⟨A2, B.length, c2⟩, B, now + 1⟩ : ItD))]) = ((rmv at' K ++ [(at', (⟨⟨A2, B.length, c2⟩, B, now + 1⟩ : ItD))])).tail := if_pos hgt
    refine gk_any [1, 2] (Cut _ (fun _ : Unit => [(0, .pointer (some ⟨c, 0, none⟩)), (20, .bool true)]) (fun _ => [allF (setI at' (⟨⟨A2, B.length, c2⟩, B, now + 1⟩ : ItD) M) itF, blk c [.map (some r), .int .i64 (mo : Nat), .int .u64 ((now + 1 : Nat) : Int), .int .i64 (hit : Nat), .int .i64 (miss : Nat)] 103, mpk r (Value.int .i64) (vals (setI at' (⟨⟨A2, B.length, c2⟩, B, now + 1⟩ : ItD) M))]) (fun _ => [])) rfl rfl (by kernel_rfl) ?_ (cut_k fun _ => ?_)
    · skip
      refine gb_take 0 rfl (by decide +kernel) rfl rfl (ys_ev (nw := true) hT rfl sI) sF ?_
      refine gb_take 1 rfl (by decide +kernel) rfl rfl (ys_ev (nw := true) hT rfl sI) sF ?_
      refine gb_take 2 rfl (by decide +kernel) rfl rfl (ys_ev (nw := true) hT rfl sI) sF ?_
      refine gb_take 3 rfl (by decide +kernel) rfl rfl (by first | exact ys_blk hT rfl rfl mE rfl rfl | exact ys_row hT rfl rfl mE rfl rfl | exact ys_row0 hT rfl rfl mE rfl rfl) sF ?_
      refine gb_take 4 rfl (by decide +kernel) rfl rfl (ys_map_len rfl rfl rfl rfl Try.underlying101 mE) sF ?_
      refine gb_take 5 rfl (by decide +kernel) rfl rfl (ys_ev (nw := true) hT rfl sI) sF ?_
      refine gb_take 6 rfl (by decide +kernel) rfl rfl (ys_ev (nw := true) hT rfl sI) sF ?_
      refine gb_take 7 rfl (by decide +kernel) rfl rfl (ys_ev (nw := true) hT rfl sI) sF ?_
      refine gb_take 8 rfl (by decide +kernel) rfl rfl (by first | exact ys_blk hT rfl rfl mE rfl rfl | exact ys_row hT rfl rfl mE rfl rfl | exact ys_row0 hT rfl rfl mE rfl rfl) sF ?_
      refine gb_take 9 rfl (by decide +kernel) rfl rfl (ys_ev (nw := true) hT rfl sI) sF ?_
      try (refine gb_say 20 (.bool true) rfl (congrArg Value.bool (tB_true (by rw [vals_len]; omega))) ?_)
      refine gb_nil (by decide +kernel) ?_
      exact ⟨(), (by repeat (first | exact trivial | refine ⟨rfl, ?_⟩)), sA, sS⟩
    · (repeat (refine gG ?_; try intro _))
      obtain ⟨⟨k0, x0⟩, K2, hK2⟩ : ∃ p K2, (rmv at' K ++ [(at', (⟨⟨A2, B.length, c2⟩, B, now + 1⟩ : ItD))]) = p :: K2 := by
        cases hc : (rmv at' K ++ [(at', (⟨⟨A2, B.length, c2⟩, B, now + 1⟩ : ItD))]) with
        | nil => rw [hc] at hk1; exact absurd hk1 (Nat.lt_irrefl 0)
        | cons p K2 => exact ⟨p, K2, rfl⟩
      rw [hK2] at hinv hle1
      have hm0 : (k0, x0) ∈ (setI at' (⟨⟨A2, B.length, c2⟩, B, now + 1⟩ : ItD) M) := hinv.perm.mem_iff.2 (.head _)
      refine gk_any [1] (Cut _ (fun _ : Unit => []) (fun _ => [allF (setI at' (⟨⟨A2, B.length, c2⟩, B, now + 1⟩ : ItD) M) itF, blk c [.map (some r), .int .i64 (mo : Nat), .int .u64 ((now + 1 : Nat) : Int), .int .i64 (hit : Nat), .int .i64 (miss : Nat)] 103, mpk r (Value.int .i64) (mdG k0 (vals (setI at' (⟨⟨A2, B.length, c2⟩, B, now + 1⟩ : ItD) M)))]) (fun _ => [])) rfl rfl (by kernel_rfl) ?_ (cut_k fun _ => ?_)
      · skip
        refine gb_take 0 rfl (by decide +kernel) rfl rfl (ys_ev (nw := true) hT rfl sI) sF ?_
        refine gb_take 1 rfl (by decide +kernel) rfl rfl (ys_ev (nw := true) hT rfl sI) sF ?_
        refine gb_take 2 rfl (by decide +kernel) rfl rfl (ys_ev (nw := true) hT rfl sI) sF ?_
        refine gb_take 3 rfl (by decide +kernel) rfl rfl (by first | exact ys_blk hT rfl rfl mE rfl rfl | exact ys_row hT rfl rfl mE rfl rfl | exact ys_row0 hT rfl rfl mE rfl rfl) sF ?_
        refine gb_take 4 rfl (by decide +kernel) rfl rfl (ys_ev (nw := true) hT rfl sI) sF ?_
        refine gb_only 5 (by decide +kernel) rfl rfl ?_
        refine mv_call_bel (fun w hk => oldest_any c r mo (now + 1) hit miss (setI at' (⟨⟨A2, B.length, c2⟩, B, now + 1⟩ : ItD) M) k0 x0 w hm0 (fun p hp => by have := hle1 p (hinv.perm.mem_iff.1 hp); omega) (fun p hp => by
          rcases List.mem_cons.1 (hinv.perm.mem_iff.1 hp) with rfl | h7
          · exact .inl rfl
          · exact .inr ((List.pairwise_cons.1 hinv.asc).1 p h7)) (hk.rO (φ := blk c [.map (some r), .int .i64 (mo : Nat), .int .u64 ((now + 1 : Nat) : Int), .int .i64 (hit : Nat), .int .i64 (miss : Nat)] 103) mE) (hk.rO (φ := mpk r (Value.int .i64) (vals (setI at' (⟨⟨A2, B.length, c2⟩, B, now + 1⟩ : ItD) M))) mE)) rfl rfl rfl rfl rfl (by kernel_rfl) ?_
        refine ⟨sF, ?_⟩
        refine gb_only 6 (by decide +kernel) rfl rfl ?_
        refine mv_mapDeleteG rfl k0 rfl rfl rfl rfl rfl Try.underlying101 kok_i (by first | ((repeat (first | with_reducible exact Upd.here _ | with_reducible apply Upd.there)); done) | ((repeat (first | exact Upd.here _ | apply Upd.there)); done) | fail) ?_
        refine ⟨sF, ?_⟩
        refine gb_nil (by decide +kernel) ?_
        exact ⟨(), (by repeat (first | exact trivial | refine ⟨rfl, ?_⟩)), sA, sS⟩
      · rw [md_vals]
        refine gk_derO [allF (setI at' (⟨⟨A2, B.length, c2⟩, B, now + 1⟩ : ItD) M) itF] [blk c [.map (some r), .int .i64 (mo : Nat), .int .u64 ((now + 1 : Nat) : Int), .int .i64 (hit : Nat), .int .i64 (miss : Nat)] 103, mpk r (Value.int .i64) (vals (delI k0 (setI at' (⟨⟨A2, B.length, c2⟩, B, now + 1⟩ : ItD) M)))] (der_del (q := k0)) sA ?_
        refine gk_fin hT rfl rfl .nil (fun w' hk => ?_)
        have hd := hinv.del k0
        rw [hinv.tail] at hd
        exact RetM.mkP (ll := fun q : SlV × List Itm => lrL c ⟨r, mo, now + 1, hit, miss, q.2⟩) (⟨A2, B.length, c2⟩, delI k0 (setI at' (⟨⟨A2, B.length, c2⟩, B, now + 1⟩ : ItD) M)) ⟨⟨rfl, hA1, hA2, hA3⟩, by show LInv _ (trim mo (rmv at' K ++ [(at', (⟨⟨A2, B.length, c2⟩, B, now + 1⟩ : ItD))])) _; rw [ht, hK2]; exact hd⟩ rfl hk hfin sA
  · have ht : trim mo (rmv at' K ++ [(at', (⟨⟨A2, B.length, c2⟩, B, now + 1⟩ : ItD))]) = (rmv at' K ++ [(at', (⟨⟨A2, B.length, c2⟩, B, now + 1⟩ : ItD))]) := if_neg hgt
    refine gk_any [1, 2] (Cut _ (fun _ : Unit => [(0, .pointer (some ⟨c, 0, none⟩)), (20, .bool false)]) (fun _ => [allF (setI at' (⟨⟨A2, B.length, c2⟩, B, now + 1⟩ : ItD) M) itF, blk c [.map (some r), .int .i64 (mo : Nat), .int .u64 ((now + 1 : Nat) : Int), .int .i64 (hit : Nat), .int .i64 (miss : Nat)] 103, mpk r (Value.int .i64) (vals (setI at' (⟨⟨A2, B.length, c2⟩, B, now + 1⟩ : ItD) M))]) (fun _ => [])) rfl rfl (by kernel_rfl) ?_ (cut_k fun _ => ?_)
    · skip
      refine gb_take 0 rfl (by decide +kernel) rfl rfl (ys_ev (nw := true) hT rfl sI) sF ?_
      refine gb_take 1 rfl (by decide +kernel) rfl rfl (ys_ev (nw := true) hT rfl sI) sF ?_
      refine gb_take 2 rfl (by decide +kernel) rfl rfl (ys_ev (nw := true) hT rfl sI) sF ?_
      refine gb_take 3 rfl (by decide +kernel) rfl rfl (by first | exact ys_blk hT rfl rfl mE rfl rfl | exact ys_row hT rfl rfl mE rfl rfl | exact ys_row0 hT rfl rfl mE rfl rfl) sF ?_
      refine gb_take 4 rfl (by decide +kernel) rfl rfl (ys_map_len rfl rfl rfl rfl Try.underlying101 mE) sF ?_
      refine gb_take 5 rfl (by decide +kernel) rfl rfl (ys_ev (nw := true) hT rfl sI) sF ?_
      refine gb_take 6 rfl (by decide +kernel) rfl rfl (ys_ev (nw := true) hT rfl sI) sF ?_
      refine gb_take 7 rfl (by decide +kernel) rfl rfl (ys_ev (nw := true) hT rfl sI) sF ?_
      refine gb_take 8 rfl (by decide +kernel) rfl rfl (by first | exact ys_blk hT rfl rfl mE rfl rfl | exact ys_row hT rfl rfl mE rfl rfl | exact ys_row0 hT rfl rfl mE rfl rfl) sF ?_
      refine gb_take 9 rfl (by decide +kernel) rfl rfl (ys_ev (nw := true) hT rfl sI) sF ?_
      try (refine gb_say 20 (.bool false) rfl (congrArg Value.bool (tB_false (by rw [vals_len]; omega))) ?_)
      refine gb_nil (by decide +kernel) ?_
      exact ⟨(), (by repeat (first | exact trivial | refine ⟨rfl, ?_⟩)), sA, sS⟩
    · (repeat (refine gG ?_; try intro _))
      refine gk_fin hT rfl rfl .nil (fun w' hk => ?_)
      exact RetM.mkP (ll := fun q : SlV × List Itm => lrL c ⟨r, mo, now + 1, hit, miss, q.2⟩) (⟨A2, B.length, c2⟩, (setI at' (⟨⟨A2, B.length, c2⟩, B, now + 1⟩ : ItD) M)) ⟨⟨rfl, hA1, hA2, hA3⟩, by show LInv _ (trim mo (rmv at' K ++ [(at', (⟨⟨A2, B.length, c2⟩, B, now + 1⟩ : ItD))])) _; rw [ht]; exact hinv⟩ rfl hk hfin sA
end Go.Proofs.Ytajbjbhlpcmddaa.Dk

