/- The law's alive; bytes.Clone (layer 64). -/
import Derived.Test.YtajbjbhlpcmddaaCd2
import Derived.Test.YtajbjbhlpcmddaaBeq
namespace Go.Proofs.Ytajbjbhlpcmddaa.Dk
open Go.RowKit Mem Gx Bytes
set_option linter.unusedVariables false
set_option linter.unusedSimpArgs false
set_option maxRecDepth 100000
set_option maxHeartbeats 1000000
theorem bclone_any (A : Option Addr) (n c : Nat) (L : List Int) (w : World) (hn : n = L.length) (h0 : 0 < n) (h9 : n ≤ 100000) (hs : Sl w A 1 (IE .u8) L) :
    Calls Try.prog 45 [.slice A n c].toArray w (Ret (fun _ : Value => True) (fun v => v) (fun v => [own 0 5 1 v (IE .u8) L]) w) := by
  rcases A with _ | a
  · obtain ⟨b, off, e, _⟩ := hs (by omega)
    cases e
  · refine g_enter0 T [] [] [sl (some a) 1 (IE .u8) L] Try.func45 rfl Try.ntmps45 rfl ((Kn.start w).argR hs (by decide) (fun _ h => by cases h)) ?_
    (repeat' (first | (refine gG1 ?_; try intro _) | ((first | refine g_split rfl rfl tE (fun _ => ?_) (fun _ => ?_) | refine gk_cond rfl rfl tE (fun _ => ?_) (fun _ => ?_)) <;> (try first | (exfalso; omega; done) | (rename_i hx; exact absurd rfl hx) | (rename_i hx; cases hx; done)))))
    refine g_mv rfl (mv_empty 1 (IE .u8) rfl hT rfl rfl rfl rfl rfl (fun g => ?_))
    (repeat (refine gG1 ?_; try intro _))
    refine g_mv rfl (mv_append (L := []) rfl L rfl rfl rfl rfl elt_B (by intro _; first | ((repeat (first | with_reducible exact Upd.here _ | with_reducible apply Upd.there)); done) | ((repeat (first | exact Upd.here _ | apply Upd.there)); done) | fail) (src_R mE) hn (by intro x j; rfl) (by simp [maxLen]; omega) (by simp; omega) (Nat.zero_le _) (fun v => ?_))
    (repeat (refine gG1 ?_; try intro _))
    refine gk_ret hT rfl rfl (.tmp rfl .nil) (fun w' hk => ?_)
    exact Ret.mk v trivial rfl hk sA
theorem alive64_any (w : World) : Calls Try.prog 19 (#[] : Array Value) w fun e w' => e = .returned (.bool true) ∧ Below w.heap.size w w' := by
  refine g_enter0 T [] [] [] Try.func19 rfl Try.ntmps19 rfl (Kn.start _) ?_
  (repeat (refine gG ?_; try intro _))
  refine g_mv rfl ?_; refine mv_call_rt (fun w hk => dnew_any 3 (by decide) (by decide) w) rfl rfl rfl rfl rfl (by kernel_rfl) (fun _ => rfl) (fun q hq => ?_)
  obtain ⟨g, sv, S⟩ := q
  obtain ⟨hSo, hSL⟩ := hq
  dsimp only at hSo hSL ⊢
  have hSn : S.length = 3 := by
    have := congrArg List.length hSL
    rwa [List.length_map, List.length_replicate] at this
  (repeat' (first | (refine gG ?_; try intro _) | ((first | refine g_split rfl rfl tE (fun _ => ?_) (fun _ => ?_) | refine gk_cond rfl rfl tE (fun _ => ?_) (fun _ => ?_)) <;> (try first | (exfalso; omega; done) | (rename_i hx; exact absurd rfl hx) | (rename_i hx; cases hx; done)))))
  refine g_mv rfl ?_; refine mv_call_rt (fun w hk => cnew_any g 2 w) rfl rfl rfl rfl rfl (by kernel_rfl) (fun _ => rfl) (fun q hq => ?_)
  obtain ⟨x, c, r, mo⟩ := q
  dsimp only at hq ⊢
  have hmo : mo = 2 := by omega
  subst hmo
  (repeat' (first | (refine gG ?_; try intro _) | ((first | refine g_split rfl rfl tE (fun _ => ?_) (fun _ => ?_) | refine gk_cond rfl rfl tE (fun _ => ?_) (fun _ => ?_)) <;> (try first | (exfalso; omega; done) | (rename_i hx; exact absurd rfl hx) | (rename_i hx; cases hx; done)))))
  have ho : DkOk S [] := ⟨hSo, fun y hy => (by cases hy), by omega⟩
  refine g_pack [blk x [.pointer (some ⟨g, 0, none⟩), .pointer (some ⟨c, 0, none⟩)] 76, lrF c ⟨r, 2, 0, 0, 0, []⟩, dkF g ⟨sv, .slice none 0 0, S, []⟩] [] sA ?_
  refine g_mv rfl (mv_call_mod (φ := packF [blk x [.pointer (some ⟨g, 0, none⟩), .pointer (some ⟨c, 0, none⟩)] 76, lrF c ⟨r, 2, 0, 0, 0, []⟩, dkF g ⟨sv, .slice none 0 0, S, []⟩]) (ψ := fun q : SlV × SlV × List Itm => packF [blk x [.pointer (some ⟨g, 0, none⟩), .pointer (some ⟨c, 0, none⟩)] 76, lrF c ⟨r, 2, 1, 0, 1, q.2.2⟩, dkF g ⟨sv, .slice none 0 0, S, []⟩, sl q.1.A 1 (IE .u8) (dread (S.map SecD.L) (([] : List WrD).map WrD.c) 0)]) (fun w1 hk => by exact cread_miss x g c r 2 0 0 0 [] [] sv (.slice none 0 0) S [] 0 w1 (LInv.empty 0) ho (by decide) rfl (by omega) (by omega) (by omega) (hk.rO (φ := packF [blk x [.pointer (some ⟨g, 0, none⟩), .pointer (some ⟨c, 0, none⟩)] 76, lrF c ⟨r, 2, 0, 0, 0, []⟩, dkF g ⟨sv, .slice none 0 0, S, []⟩]) mE)) rfl rfl rfl rfl rfl (by kernel_rfl) (by intro _; first | ((repeat (first | with_reducible exact Upd.here _ | with_reducible apply Upd.there)); done) | ((repeat (first | exact Upd.here _ | apply Upd.there)); done) | fail) (fun q hq => ?_))
  obtain ⟨s1, s2, M⟩ := q
  obtain ⟨_, hs2, hli⟩ := hq
  dsimp only at hs2 hli ⊢
  refine g_unpack (l := [blk x [.pointer (some ⟨g, 0, none⟩), .pointer (some ⟨c, 0, none⟩)] 76, lrF c ⟨r, 2, 1, 0, 1, M⟩, dkF g ⟨sv, .slice none 0 0, S, []⟩, sl s1.A 1 (IE .u8) (dread (S.map SecD.L) (([] : List WrD).map WrD.c) 0)]) (by repeat (first | with_reducible exact Sel.here | with_reducible apply Sel.there)) ?_
  (repeat (refine gG ?_; try intro _))
  have hM : M = [((0 : Int), (⟨s2, (dread (S.map SecD.L) (([] : List WrD).map WrD.c) 0), 1⟩ : ItD))] := List.perm_singleton.1 hli.perm
  subst hM
  obtain ⟨uA, un, uc⟩ := s2
  have hok : SecOk (dread (S.map SecD.L) (([] : List WrD).map WrD.c) 0) := dread_ok (fun l hl => by obtain ⟨d, hd, rfl⟩ := List.mem_map.1 hl; exact (hSo d hd).k) (fun y hy => by cases hy) (by rw [List.length_map]; omega)
  refine g_pack [blk x [.pointer (some ⟨g, 0, none⟩), .pointer (some ⟨c, 0, none⟩)] 76, lrF c ⟨r, 2, 1, 0, 1, [((0 : Int), (⟨⟨uA, un, uc⟩, (dread (S.map SecD.L) (([] : List WrD).map WrD.c) 0), 1⟩ : ItD))]⟩, dkF g ⟨sv, .slice none 0 0, S, []⟩] [] sA ?_
  refine g_mv rfl (mv_call_mod (φ := packF [blk x [.pointer (some ⟨g, 0, none⟩), .pointer (some ⟨c, 0, none⟩)] 76, lrF c ⟨r, 2, 1, 0, 1, [((0 : Int), (⟨⟨uA, un, uc⟩, (dread (S.map SecD.L) (([] : List WrD).map WrD.c) 0), 1⟩ : ItD))]⟩, dkF g ⟨sv, .slice none 0 0, S, []⟩]) (ψ := fun s : SlV => packF [blk x [.pointer (some ⟨g, 0, none⟩), .pointer (some ⟨c, 0, none⟩)] 76, lrF c ⟨r, 2, 2, 1, 1, setI 0 ⟨⟨uA, un, uc⟩, (dread (S.map SecD.L) (([] : List WrD).map WrD.c) 0), 2⟩ [((0 : Int), (⟨⟨uA, un, uc⟩, (dread (S.map SecD.L) (([] : List WrD).map WrD.c) 0), 1⟩ : ItD))]⟩, dkF g ⟨sv, .slice none 0 0, S, []⟩, sl s.A 1 (IE .u8) (dread (S.map SecD.L) (([] : List WrD).map WrD.c) 0)]) (fun w1 hk => by exact cread_hit x g c r 2 1 0 1 _ sv (.slice none 0 0) S [] 0 uA un uc (dread (S.map SecD.L) (([] : List WrD).map WrD.c) 0) 1 w1 rfl ⟨hs2, hok⟩ (by omega) (by omega) (hk.rO (φ := packF [blk x [.pointer (some ⟨g, 0, none⟩), .pointer (some ⟨c, 0, none⟩)] 76, lrF c ⟨r, 2, 1, 0, 1, [((0 : Int), (⟨⟨uA, un, uc⟩, (dread (S.map SecD.L) (([] : List WrD).map WrD.c) 0), 1⟩ : ItD))]⟩, dkF g ⟨sv, .slice none 0 0, S, []⟩]) mE)) rfl rfl rfl rfl rfl (by kernel_rfl) (by intro _; first | ((repeat (first | with_reducible exact Upd.here _ | with_reducible apply Upd.there)); done) | ((repeat (first | exact Upd.here _ | apply Upd.there)); done) | fail) (fun s hs => ?_))
  refine g_unpack (l := [blk x [.pointer (some ⟨g, 0, none⟩), .pointer (some ⟨c, 0, none⟩)] 76, lrF c ⟨r, 2, 2, 1, 1, setI 0 ⟨⟨uA, un, uc⟩, (dread (S.map SecD.L) (([] : List WrD).map WrD.c) 0), 2⟩ [((0 : Int), (⟨⟨uA, un, uc⟩, (dread (S.map SecD.L) (([] : List WrD).map WrD.c) 0), 1⟩ : ItD))]⟩, dkF g ⟨sv, .slice none 0 0, S, []⟩, sl s.A 1 (IE .u8) (dread (S.map SecD.L) (([] : List WrD).map WrD.c) 0)]) (by repeat (first | with_reducible exact Sel.here | with_reducible apply Sel.there)) ?_
  (repeat' (first | (refine gG ?_; try intro _) | (refine g_mv rfl ?_; first | refine mv_call_bel (fun w hk => ctold_any x g c r 2 2 1 1 _ w (hk.rO (φ := blk x [.pointer (some ⟨g, 0, none⟩), .pointer (some ⟨c, 0, none⟩)] 76) mE) (hk.rO (φ := lrF c ⟨r, 2, 2, 1, 1, setI 0 ⟨⟨uA, un, uc⟩, (dread (S.map SecD.L) (([] : List WrD).map WrD.c) 0), 2⟩ [((0 : Int), (⟨⟨uA, un, uc⟩, (dread (S.map SecD.L) (([] : List WrD).map WrD.c) 0), 1⟩ : ItD))]⟩) mE)) rfl rfl rfl rfl rfl (by kernel_rfl) ?_) | ((first | refine g_split rfl rfl tE (fun _ => ?_) (fun _ => ?_) | refine gk_cond rfl rfl tE (fun _ => ?_) (fun _ => ?_)) <;> (try first | (exfalso; omega; done) | (rename_i hx; exact absurd rfl hx) | (rename_i hx; cases hx; done)))))
  refine gk_ret hT rfl rfl (.tmp rfl .nil) (fun w' hk => ?_)
  refine ⟨?_, hk.toBelow⟩
  exact congrArg (fun q => Ending.returned (.bool q)) (tB_true (by decide))
end Go.Proofs.Ytajbjbhlpcmddaa.Dk

