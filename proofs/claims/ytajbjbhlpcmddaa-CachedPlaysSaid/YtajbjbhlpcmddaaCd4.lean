/- The law's unread (layer 64). -/
import Derived.Test.YtajbjbhlpcmddaaCd3
namespace Go.Proofs.Ytajbjbhlpcmddaa.Dk
open Go.RowKit Mem Gx Bytes
set_option linter.unusedVariables false
set_option linter.unusedSimpArgs false
set_option maxRecDepth 100000
set_option maxHeartbeats 1000000
theorem wrap8 (z : Int) : 0 ≤ IntKind.u8.wrap z ∧ IntKind.u8.wrap z ≤ 255 := by
  simp only [IntKind.wrap, IntKind.bits, IntKind.signed]
  simp
  omega
theorem rd_own {α : Type} [Inhabited α] {base e sz n c : Nat} {A : Option Addr} {enc : α → Nat → Value} {L : List α} {w : World} (h : Rd1 w (own base e sz (.slice A n c) enc L)) : Rd1 w (sl A sz enc L) := by
  obtain ⟨A', c', e1, _, _, _, h2⟩ := own_rdv h
  injection e1 with e1
  subst e1
  exact h2
theorem sl_own {α : Type} [Inhabited α] {base e sz n c g : Nat} {enc enc' : α → Nat → Value} {L L' : List α} {b : Nat} (h : (sl (some ⟨g, 0, none⟩) sz enc' L').S b) : (own base e sz (.slice (some ⟨g, 0, none⟩) n c) enc L).S b := by
  obtain ⟨_, a, ha, hb⟩ := h
  injection ha with ha
  subst ha
  subst hb
  rfl
theorem bequal_self (A A' : Option Addr) (n c n' c' : Nat) (L : List Int) (w : World) (hn : n = L.length) (hn' : n' = L.length) (hs : Sl w A 1 (IE .u8) L) (hs' : Sl w A' 1 (IE .u8) L) (hB : IsB L) :
    Calls Try.prog 16 [.slice A n c, .slice A' n' c'].toArray w fun e w' => e = .returned (.bool true) ∧ Below w.heap.size w w' := by
  have h := Beq.bequal_any A A' n c n' c' L L w hn hn' hs hs' hB hB
  rwa [tB_true rfl] at h
theorem unread_any (x g g2 c r mo now hit miss : Nat) (M : List Itm) (sv lv sv2 lv2 : Value) (S S2 : List SecD) (W W2 : List WrD) (a : Nat) (xA : Option Addr) (xn xc xw : Nat) (E : List Int) (w : World) (ho : DkOk S W) (ho2 : DkOk S2 W2) (hl : W.length ≤ 1000) (hl2 : W2.length ≤ 1000) (ha : a < S.length) (ha2 : a < S2.length)
    (hE : E = (dread (S2.map SecD.L) (W2.map WrD.c) a)) (hg : getI (a : Nat) M = some ⟨⟨xA, xn, xc⟩, E, xw⟩) (hx : (⟨⟨xA, xn, xc⟩, E, xw⟩ : ItD).Ok) (h9 : hit ≤ 1000) (h8 : now ≤ 1000) (h : Rd1 w (packF [blk x [.pointer (some ⟨g, 0, none⟩), .pointer (some ⟨c, 0, none⟩)] 76, lrF c ⟨r, mo, now, hit, miss, M⟩, dkF g ⟨sv, lv, S, W⟩, dkF g2 ⟨sv2, lv2, S2, W2⟩])) :
    Calls Try.prog 18 [.pointer (some ⟨g, 0, none⟩), .pointer (some ⟨g2, 0, none⟩), .pointer (some ⟨x, 0, none⟩), .int .i64 (a : Nat)].toArray w (RetM (packF [blk x [.pointer (some ⟨g, 0, none⟩), .pointer (some ⟨c, 0, none⟩)] 76, lrF c ⟨r, mo, now, hit, miss, M⟩, dkF g ⟨sv, lv, S, W⟩, dkF g2 ⟨sv2, lv2, S2, W2⟩]) (fun q : Value × SecD => True) (fun _ => .bool true) (fun q => packF [blk x [.pointer (some ⟨g, 0, none⟩), .pointer (some ⟨c, 0, none⟩)] 76, lrF c ⟨r, mo, now + 1, hit + 1, miss, setI a ⟨⟨xA, xn, xc⟩, E, now + 1⟩ M⟩, dkF g ⟨sv, q.1, S, W ++ [(⟨a, q.2⟩ : WrD)]⟩, dkF g2 ⟨sv2, lv2, S2, W2⟩]) w) := by
  have hEk := hx.k
  dsimp only at hEk
  have h128 : E.length = 128 := hEk.1
  obtain ⟨y5, hy5⟩ : ∃ y, E[5]? = some y := ⟨E[5], List.getElem?_eq_getElem (by omega)⟩
  have hb5 := hEk.2 y5 (List.mem_of_getElem? hy5)
  obtain ⟨y6, hy6⟩ : ∃ z, IntKind.u8.wrap (y5 + 1) = z := ⟨_, rfl⟩
  have hb6 : 0 ≤ y6 ∧ y6 ≤ 255 := by rw [← hy6]; exact wrap8 _
  have h6 : SecOk (E.set 5 y6) := ⟨by rw [List.length_set]; exact h128, fun z hz => by
    rcases List.mem_or_eq_of_mem_set hz with h7 | rfl
    · exact hEk.2 z h7
    · exact hb6⟩
  refine g_enter0 T (finE (packF [blk x [.pointer (some ⟨g, 0, none⟩), .pointer (some ⟨c, 0, none⟩)] 76, lrF c ⟨r, mo, now, hit, miss, M⟩, dkF g ⟨sv, lv, S, W⟩, dkF g2 ⟨sv2, lv2, S2, W2⟩]) w) [blk x [.pointer (some ⟨g, 0, none⟩), .pointer (some ⟨c, 0, none⟩)] 76, lrF c ⟨r, mo, now, hit, miss, M⟩, dkF g ⟨sv, lv, S, W⟩, dkF g2 ⟨sv2, lv2, S2, W2⟩] [] Try.func18 rfl Try.ntmps18 rfl (Kn.startP h (fun b hb => (finE_mem h.2 b).2 hb) (fun ψ hψ => by cases hψ)) ?_
  (repeat (refine gG ?_; try intro _))
  refine g_mv rfl ?_; refine mv_call_rt (fun w hk => by have hc := dread_any g2 sv2 lv2 S2 W2 a w ho2 (by omega) ha2 (hk.rO (φ := dkF g2 ⟨sv2, lv2, S2, W2⟩) mE); rw [← hE] at hc; exact hc) rfl rfl rfl rfl rfl (by kernel_rfl) (fun _ => rfl) (fun s hs => ?_)
  obtain ⟨vA, vn, vc⟩ := s
  have hsn : vn = E.length := hs.n
  dsimp only
  (repeat' (first | (refine gG ?_; try intro _) | ((first | refine g_split rfl rfl tE (fun _ => ?_) (fun _ => ?_) | refine gk_cond rfl rfl tE (fun _ => ?_) (fun _ => ?_)) <;> (try first | (exfalso; omega; done) | (rename_i hx; exact absurd rfl hx) | (rename_i hx; cases hx; done)))))
  refine g_mv rfl ?_; refine mv_call_rt (fun w hk => bclone_any vA vn vc E w hsn (by omega) (by omega) (hk.pO (sl vA 1 (IE .u8) E) mE)) rfl rfl rfl rfl rfl (by kernel_rfl) (fun _ => rfl) (fun v _ => ?_)
  (repeat' (first | (refine gG ?_; try intro _) | ((first | refine g_split rfl rfl tE (fun _ => ?_) (fun _ => ?_) | refine gk_cond rfl rfl tE (fun _ => ?_) (fun _ => ?_)) <;> (try first | (exfalso; omega; done) | (rename_i hx; exact absurd rfl hx) | (rename_i hx; cases hx; done)))))
  refine g_own0 v mE (by omega) (fun b5 c5 hv5 _ _ => ?_)
  subst hv5
  (repeat' (first | (refine gG ?_; try intro _) | ((first | refine g_split rfl rfl tE (fun _ => ?_) (fun _ => ?_) | refine gk_cond rfl rfl tE (fun _ => ?_) (fun _ => ?_)) <;> (try first | (exfalso; omega; done) | (rename_i hx; exact absurd rfl hx) | (rename_i hx; cases hx; done)))))
  refine g_mv rfl (mv_yd rfl ((ys_load_el (S := [own 0 5 1 (.slice (some ⟨b5, 0, none⟩) E.length c5) (IE .u8) E]) (o0 := 0) (sz := 1) (enc := IE .u8) (L := E) hT 5 y5 0 rfl rfl rfl rfl hy5 (at_own mE) rfl rfl).ydS sF) ?_)
  (repeat' (first | (refine gG ?_; try intro _) | ((first | refine g_split rfl rfl tE (fun _ => ?_) (fun _ => ?_) | refine gk_cond rfl rfl tE (fun _ => ?_) (fun _ => ?_)) <;> (try first | (exfalso; omega; done) | (rename_i hx; exact absurd rfl hx) | (rename_i hx; cases hx; done)))))
  refine g_say 31 (.int .u8 y5) rfl rfl ?_
  refine g_yd rfl rfl (Ys.yd (ys_ev (nw := false) hT rfl trivial)) ?_
  refine g_say 32 (.int .u8 y6) rfl (congrArg (Value.int .u8) hy6) ?_
  (repeat' (first | (refine gG ?_; try intro _) | ((first | refine g_split rfl rfl tE (fun _ => ?_) (fun _ => ?_) | refine gk_cond rfl rfl tE (fun _ => ?_) (fun _ => ?_)) <;> (try first | (exfalso; omega; done) | (rename_i hx; exact absurd rfl hx) | (rename_i hx; cases hx; done)))))
  refine g_mv rfl (mv_store_own (enc := IE .u8) (sz := 1) hT 5 0 y5 y6 rfl rfl rfl rfl rfl rfl rfl hy5 (by decide) (fun b hb hne => by omega) rfl (by first | ((repeat (first | with_reducible exact Upd.here _ | with_reducible apply Upd.there)); done) | ((repeat (first | exact Upd.here _ | apply Upd.there)); done) | fail) rfl ?_)
  (repeat (refine gG ?_; try intro _))
  refine g_mv rfl (mv_call_mod (φ := dkF g ⟨sv, lv, S, W⟩) (ψ := fun q : Value × SecD => dkF g ⟨sv, q.1, S, W ++ [(⟨a, q.2⟩ : WrD)]⟩) (fun w1 hk => by exact dwrite_any g sv lv S W a (some ⟨b5, 0, none⟩) E.length c5 (E.set 5 y6) w1 ho (by omega) ha (by rw [List.length_set]) h6 (hk.rO (φ := dkF g ⟨sv, lv, S, W⟩) mE) (rd_own (hk.rO (φ := own 0 5 1 (.slice (some ⟨b5, 0, none⟩) E.length c5) (IE .u8) (E.set 5 y6)) mE)) (fun b h1 h2 => (List.pairwise_cons.1 hk.disO).1 (dkF g ⟨sv, lv, S, W⟩) mE b (sl_own h2) h1)) rfl rfl rfl rfl rfl (by kernel_rfl) (by intro _; first | ((repeat (first | with_reducible exact Upd.here _ | with_reducible apply Upd.there)); done) | ((repeat (first | exact Upd.here _ | apply Upd.there)); done) | fail) (fun q hq => ?_))
  obtain ⟨lv3, d3⟩ := q
  dsimp only
  (repeat (refine gG ?_; try intro _))
  refine g_pack [blk x [.pointer (some ⟨g, 0, none⟩), .pointer (some ⟨c, 0, none⟩)] 76, lrF c ⟨r, mo, now, hit, miss, M⟩, dkF g ⟨sv, lv3, S, W ++ [(⟨a, d3⟩ : WrD)]⟩] [sl vA 1 (IE .u8) E, dkF g2 ⟨sv2, lv2, S2, W2⟩] sA ?_
  (repeat (refine gG ?_; try intro _))
  refine g_mv rfl (mv_call_mod (φ := packF [blk x [.pointer (some ⟨g, 0, none⟩), .pointer (some ⟨c, 0, none⟩)] 76, lrF c ⟨r, mo, now, hit, miss, M⟩, dkF g ⟨sv, lv3, S, W ++ [(⟨a, d3⟩ : WrD)]⟩]) (ψ := fun s : SlV => packF [blk x [.pointer (some ⟨g, 0, none⟩), .pointer (some ⟨c, 0, none⟩)] 76, lrF c ⟨r, mo, now + 1, hit + 1, miss, setI a ⟨⟨xA, xn, xc⟩, E, now + 1⟩ M⟩, dkF g ⟨sv, lv3, S, W ++ [(⟨a, d3⟩ : WrD)]⟩, sl s.A 1 (IE .u8) E]) (fun w1 hk => by exact cread_hit x g c r mo now hit miss M sv lv3 S (W ++ [(⟨a, d3⟩ : WrD)]) a xA xn xc E xw w1 hg hx (by omega) (by omega) (hk.rO (φ := packF [blk x [.pointer (some ⟨g, 0, none⟩), .pointer (some ⟨c, 0, none⟩)] 76, lrF c ⟨r, mo, now, hit, miss, M⟩, dkF g ⟨sv, lv3, S, W ++ [(⟨a, d3⟩ : WrD)]⟩]) mE)) rfl rfl rfl rfl rfl (by kernel_rfl) (by intro _; first | ((repeat (first | with_reducible exact Upd.here _ | with_reducible apply Upd.there)); done) | ((repeat (first | exact Upd.here _ | apply Upd.there)); done) | fail) (fun s2 hs2 => ?_))
  obtain ⟨uA, un, uc⟩ := s2
  dsimp only
  refine g_unpack (l := [blk x [.pointer (some ⟨g, 0, none⟩), .pointer (some ⟨c, 0, none⟩)] 76, lrF c ⟨r, mo, now + 1, hit + 1, miss, setI a ⟨⟨xA, xn, xc⟩, E, now + 1⟩ M⟩, dkF g ⟨sv, lv3, S, W ++ [(⟨a, d3⟩ : WrD)]⟩, sl uA 1 (IE .u8) E]) (by repeat (first | with_reducible exact Sel.here | with_reducible apply Sel.there)) ?_
  (repeat' (first | (refine gG ?_; try intro _) | (refine g_mv rfl ?_; first | refine mv_call_bel (fun w hk => bequal_self uA vA un uc vn vc E w hs2.n hsn (hk.pO (sl uA 1 (IE .u8) E) mE) (hk.pO (sl vA 1 (IE .u8) E) mE) hEk.2) rfl rfl rfl rfl rfl (by kernel_rfl) ?_) | ((first | refine g_split rfl rfl tE (fun _ => ?_) (fun _ => ?_) | refine gk_cond rfl rfl tE (fun _ => ?_) (fun _ => ?_)) <;> (try first | (exfalso; omega; done) | (rename_i hx; exact absurd rfl hx) | (rename_i hx; cases hx; done)))))
  refine gk_ret hT rfl rfl (.tmp rfl .nil) (fun w' hk => ?_)
  exact RetM.mkP (ll := fun q : Value × SecD => [blk x [.pointer (some ⟨g, 0, none⟩), .pointer (some ⟨c, 0, none⟩)] 76, lrF c ⟨r, mo, now + 1, hit + 1, miss, setI a ⟨⟨xA, xn, xc⟩, E, now + 1⟩ M⟩, dkF g ⟨sv, q.1, S, W ++ [(⟨a, q.2⟩ : WrD)]⟩, dkF g2 ⟨sv2, lv2, S2, W2⟩]) (lv3, d3) trivial rfl hk (fun b hb => (finE_mem h.2 b).1 hb) sA
end Go.Proofs.Ytajbjbhlpcmddaa.Dk

