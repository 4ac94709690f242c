/- chain.Load. -/
import Derived.Test.YteajefmnbalofaaCh2
namespace Go.Proofs.Yteajefmnbalofaa.Ch
open Go.RowKit Mem Gx Bytes Dk Al Rf Hp
set_option linter.unusedVariables false
set_option linter.unusedSimpArgs false
set_option maxRecDepth 100000
set_option maxHeartbeats 4000000
/-- Where a chain goes on. -/
def atC (l : List Int) (k : Nat) : Int := (l[k]?).getD 0
theorem pg5 {L : List Int} (h : L.length ≤ 120) : Page.ofR 5 (Page.getS (Page.page 5 L)) = (L, 0) := by
  unfold Page.ofR
  rw [Page.getS_page (by omega) (by omega) h]
  simp
theorem num4 {x : Int} (h0 : 0 ≤ x) (h9 : x ≤ 4294967295) : num (le x 4) = x := by
  rw [num_le x h0, Int.emod_eq_of_lt h0]
  have : (256 : Int) ^ 4 = 4294967296 := by decide
  omega
theorem rd_own {α : Type} [Inhabited α] {base e sz n c : Nat} {A : Option Addr} {enc : α → Nat → Value} {L : List α} {w : World} (h : Rd1 w (own base e sz (.slice A n c) enc L)) : Rd1 w (sl A sz enc L) := by
  obtain ⟨A', c', e1, _, _, _, h2⟩ := own_rdv h
  injection e1 with e1
  subst e1
  exact h2
structure LdR where
  oA : Option Addr
  oc : Nat
  lA : Option Addr
  lc : Nat
theorem cload_any (B l : List Int) (g lg : Nat) (sv lv : Value) (S : List SecD) (W : List WrD) (w : World) (hB : IsB B) (h9 : B.length ≤ 100000) (hlg : lg ≤ 1000) (hdk : DkOk S W) (hW : W.length ≤ 100000) (hll : l.length = chN B.length) (hnd : l.Nodup) (hl : ∀ x ∈ l, 1 ≤ x ∧ x + lg + 1 < S.length)
    (hrd : ∀ (j x : Nat), j < l.length → l[j]? = some (x : Int) → dread (S.map SecD.L) (W.map WrD.c) (x + lg + 1) = PGk B l j) (h : Rd1 w (dkF g ⟨sv, lv, S, W⟩)) :
    Calls Try.prog 27 [.int .u32 (atC l 0), .int .i64 (B.length : Nat), .agg #[.pointer (some ⟨g, 0, none⟩), .int .i64 (lg : Nat)]].toArray w (Ret (fun q : LdR => (SlV.mk q.oA B.length q.oc).Ok B.length ∧ (SlV.mk q.lA l.length q.lc).Ok l.length) (fun q => .tuple #[.slice q.oA B.length q.oc, .slice q.lA l.length q.lc, .int .i64 0]) (fun q => [sl q.oA 1 (IE .u8) B, sl q.lA 1 (IE .u32) l]) w) := by
  have hn9 := hdk.n
  have hcn : chN B.length ≤ 1000 := by unfold chN; omega
  refine g_enter0 T [] [] [dkF g ⟨sv, lv, S, W⟩] Try.func27 rfl Try.ntmps27 rfl (Rds.cons h .nil).kn ?_
  (repeat (refine gG ?_; try intro _))
  rename_i b5
  refine gk_own 0 5 1 (IE .u8) ?_
  refine gk_own 0 60 1 (IE .u32) ?_
  refine gk_loop_sel (fun (q : Nat × (Option Addr) × Nat × (Option Addr) × Nat) => match q with | (k, oA, oc, lA, lc) => (k ≤ l.length)) (fun (q : Nat × (Option Addr) × Nat × (Option Addr) × Nat) => match q with | (k, oA, oc, lA, lc) => [(1, .int .i64 (B.length : Nat)), (5, .pointer (some ⟨b5, 0, none⟩)), (9, .slice oA (B.take (116 * k)).length oc), (10, .slice lA (l.take k).length lc), (11, .int .u32 (atC l k))]) (fun (q : Nat × (Option Addr) × Nat × (Option Addr) × Nat) => match q with | (k, oA, oc, lA, lc) => [blk b5 [.pointer (some ⟨g, 0, none⟩), .int .i64 (lg : Nat)] 56, own 0 5 1 (.slice oA (B.take (116 * k)).length oc) (IE .u8) (B.take (116 * k)), own 0 60 1 (.slice lA (l.take k).length lc) (IE .u32) (l.take k)]) (fun (q : Nat × (Option Addr) × Nat × (Option Addr) × Nat) => match q with | (k, oA, oc, lA, lc) => [dkF g ⟨sv, lv, S, W⟩]) (fun (q : Nat × (Option Addr) × Nat × (Option Addr) × Nat) => match q with | (k, oA, oc, lA, lc) => l.length - k) (0, none, 0, none, 0) rfl (Nat.zero_le _) (by repeat (first | exact trivial | refine ⟨rfl, ?_⟩)) sA sS ?_
  rintro ⟨k, oA, oc, lA, lc⟩ hI
  replace hI : (k ≤ l.length) := hI
  change GK _ _ [(1, .int .i64 (B.length : Nat)), (5, .pointer (some ⟨b5, 0, none⟩)), (9, .slice oA (B.take (116 * k)).length oc), (10, .slice lA (l.take k).length lc), (11, .int .u32 (atC l k))] [blk b5 [.pointer (some ⟨g, 0, none⟩), .int .i64 (lg : Nat)] 56, own 0 5 1 (.slice oA (B.take (116 * k)).length oc) (IE .u8) (B.take (116 * k)), own 0 60 1 (.slice lA (l.take k).length lc) (IE .u32) (l.take k)] [dkF g ⟨sv, lv, S, W⟩]
  have hl1 : (l.take k).length = k := by rw [List.length_take]; omega
  by_cases hlt : k < l.length
  · obtain ⟨x, hx⟩ : ∃ x, l[k]? = some x := ⟨l[k], List.getElem?_eq_getElem hlt⟩
    have hat : atC l k = x := by unfold atC; rw [hx]; rfl
    obtain ⟨hx1, hx2⟩ := hl x (List.mem_of_getElem? hx)
    obtain ⟨a, rfl⟩ := Int.eq_ofNat_of_zero_le (a := x) (by omega)
    rw [hat]
    have hno : ¬ (a : Int) ∈ (l.take k) := fun hm => by
      obtain ⟨j, hj⟩ := List.getElem?_of_mem hm
      have hjl := (List.getElem?_eq_some_iff.1 hj).1
      rw [hl1] at hjl
      rw [List.getElem?_take_of_lt hjl] at hj
      have := (List.getElem?_inj (by omega) hnd).1 (hj.trans hx.symm)
      omega
    have hpg := hrd k a hlt hx
    have hct : ∀ w, Rd1 w (own 0 60 1 (.slice lA (l.take k).length lc) (IE .u32) (l.take k)) → Calls Try.prog 54 [.slice lA (l.take k).length lc, .int .u32 (a : Int)].toArray w fun e w' => e = .returned (.bool false) ∧ Below w.heap.size w w' := fun w h => by
      have hc := cont_any lA (l.take k).length lc (l.take k) (a : Int) w rfl (by rw [hl1]; unfold maxLen; omega) (rd_own h)
      rwa [tB_false hno] at hc
    have h116 : 116 * k < B.length := chN_lt.1 (by omega)
    obtain ⟨c1, c2, c3⟩ := ckN_pos h116
    have hbl := body_len (l := l) h116
    have hpo := fun (u : SlV) w (hu : u.Ok (PGk B l k).length) h => pof_any 5 u (PGk B l k) w hu h (Page.page_isB (by omega) (by omega) (body_isB hB))
    rw [show Page.ofR 5 (Page.getS (PGk B l k)) = ((bodyC B l k), 0) from pg5 (by omega)] at hpo
    dsimp only at hpo
    have hpr := fun w h => pread_any g lg sv lv S W a w hdk hW (by omega) (by omega) (by omega) (by omega) h
    rw [hpg] at hpr
    (repeat' (first | (refine gG ?_; try intro _) | (refine g_mv rfl ?_; first | refine mv_call_bel (fun w hk => blocks_any B.length (by omega) w) rfl rfl rfl rfl rfl (by kernel_rfl) ?_ | refine mv_call_bel (fun w hk => hct w (hk.rO (φ := own 0 60 1 (.slice lA (l.take k).length lc) (IE .u32) (l.take k)) mE)) rfl rfl rfl rfl rfl (by kernel_rfl) ?_) | ((first | refine g_split rfl rfl tE (fun _ => ?_) (fun _ => ?_) | refine gk_cond rfl rfl tE (fun _ => ?_) (fun _ => ?_)) <;> (try first | (exfalso; omega; done) | (rename_i hx; exact absurd rfl hx) | (rename_i hx; cases hx; done)))))
    refine g_mv rfl ?_; refine mv_call_rt (fun w hk => hpr w (hk.rR (φ := dkF g ⟨sv, lv, S, W⟩) mE)) rfl rfl rfl rfl rfl (by kernel_rfl) (fun _ => rfl) (fun u hu => ?_)
    (repeat' (first | (refine gG ?_; try intro _) | ((first | refine g_split rfl rfl tE (fun _ => ?_) (fun _ => ?_) | refine gk_cond rfl rfl tE (fun _ => ?_) (fun _ => ?_)) <;> (try first | (exfalso; omega; done) | (rename_i hx; exact absurd rfl hx) | (rename_i hx; cases hx; done)))))
    refine g_mv rfl ?_; refine mv_call_rt (fun w hk => hpo u w hu (hk.pO (sl u.A 1 (IE .u8) (PGk B l k)) mE)) rfl rfl rfl rfl rfl (by kernel_rfl) (fun _ => rfl) (fun b hb => ?_)
    obtain ⟨bA, bn, bc⟩ := b
    obtain ⟨hb1, hb2, hb3, hb4⟩ := hb
    dsimp only [SlV.v] at hb1 hb2 hb3 hb4 ⊢
    subst hb1
    (repeat' (first | (refine gG ?_; try intro _) | ((first | refine g_split rfl rfl tE (fun _ => ?_) (fun _ => ?_) | refine gk_cond rfl rfl tE (fun _ => ?_) (fun _ => ?_)) <;> (try first | (exfalso; omega; done) | (rename_i hx; exact absurd rfl hx) | (rename_i hx; cases hx; done)))))
    have e2 : l.take (k + 1) = l.take k ++ [(a : Int)] := by rw [List.take_add_one, hx]; rfl
    have hbd : ((bodyC B l k)).drop 4 = (B.drop (116 * k)).take (ckN B.length k) := List.drop_left' (le_length _ _)
    have hbt : ((bodyC B l k)).take 4 = le (nxt l k) 4 := List.take_left' (le_length _ _)
    have hbdl : (((bodyC B l k)).drop 4).length = ((bodyC B l k)).length - 4 := List.length_drop
    have e3 : B.take (116 * (k + 1)) = (B.take (116 * k)) ++ ((bodyC B l k)).drop 4 := by
      rw [hbd, show 116 * (k + 1) = 116 * k + 116 by omega, List.take_add]
      congr 1
      by_cases hc : 116 < B.length - 116 * k
      · rw [show ckN B.length k = 116 from if_pos hc]
      · rw [show ckN B.length k = B.length - 116 * k from if_neg hc, List.take_of_length_le (by rw [List.length_drop]; omega), List.take_of_length_le (by rw [List.length_drop]; omega)]
    have hob : (B.take (116 * k)).length ≤ B.length := by rw [List.length_take]; omega
    have hnx : 0 ≤ nxt l k ∧ nxt l k ≤ 4294967295 := by
      unfold nxt
      cases hq : l[k + 1]? with
      | none => exact ⟨Int.le_refl _, by decide⟩
      | some y => have := hl y (List.mem_of_getElem? hq); show 0 ≤ y ∧ y ≤ 4294967295; omega
    refine g_mv rfl (mv_append (L := (l.take k)) rfl [(a : Int)] rfl rfl rfl rfl elt_U (by intro _; first | ((repeat (first | with_reducible exact Upd.here _ | with_reducible apply Upd.there)); done) | ((repeat (first | exact Upd.here _ | apply Upd.there)); done) | fail) (src_blk mE rfl) rfl oneU (by simp only [maxLen, List.length_append, List.length_cons, List.length_nil]; omega) (by simp only [List.length_append, List.length_cons, List.length_nil]; omega) (Nat.zero_le _) ?_)
    intro v2
    refine g_ownv v2 mE (fun A3 c3 hv3 _ _ _ => ?_)
    subst hv3
    rw [← e2]
    refine g_share (φ := sl bA 1 (IE .u8) (bodyC B l k)) (by repeat (first | with_reducible exact Sel.here | with_reducible apply Sel.there)) ?_
    refine g_dropS (enc := IE .u8) (L := (bodyC B l k)) (A := bA) 4 bc mE (by omega) ?_
    refine g_takeS (enc := IE .u8) (L := (bodyC B l k)) (A := bA) 4 bc mE (by omega) ?_
    (repeat (refine gG ?_; try intro _))
    refine g_yd rfl rfl (Ys.yd (ys_slice_l hT 4 rfl rfl rfl rfl rfl (by omega))) ?_
    refine g_mv rfl (mv_append (L := (B.take (116 * k))) rfl (((bodyC B l k)).drop 4) rfl rfl rfl rfl elt_B (by intro _; first | ((repeat (first | with_reducible exact Upd.here _ | with_reducible apply Upd.there)); done) | ((repeat (first | exact Upd.here _ | apply Upd.there)); done) | fail) (src_R mE) hbdl.symm (by intro x j; rfl) (by first | omega | (simp only [maxLen, List.length_append]; omega)) (by first | omega | (simp only [List.length_append]; omega)) (Nat.zero_le _) ?_)
    intro v4
    refine g_ownv v4 mE (fun A5 c5 hv5 _ _ _ => ?_)
    subst hv5
    rw [← e3]
    (repeat (refine gG ?_; try intro _))
    refine g_yd rfl rfl (Ys.yd (ys_slice_h hT 4 rfl rfl rfl rfl rfl (by omega))) ?_
    have hgt := fun w (h : Sl w (shA bA 0 bc 1) 1 (IE .u8) (((bodyC B l k)).take 4)) => Fix.get_any (shA bA 0 bc 1) 4 bc (((bodyC B l k)).take 4) w (by rw [List.length_take]; omega) (by omega) (fun e => by rw [shA_0] at e; exact hb4 e) h ((body_isB hB).take 4) (by omega)
    rw [hbt, num4 hnx.1 hnx.2] at hgt
    rw [← hbt] at hgt
    refine g_mv rfl ?_; refine mv_call_bel (fun w hk => hgt w (hk.pR (sl (shA bA 0 bc 1) 1 (IE .u8) (((bodyC B l k)).take 4)) mE)) rfl rfl rfl rfl rfl (by kernel_rfl) ?_
    (repeat (refine gG ?_; try intro _))
    refine gk_say 11 (.int .u32 (atC l (k + 1))) rfl (by first | rfl | (congr 1; omega)) ?_
    refine gk_again_sel rfl (k + 1, A5, c5, A3, c3) hlt (by dsimp only; omega) (by repeat (first | exact trivial | refine ⟨rfl, ?_⟩)) sA sS
  · obtain rfl : k = l.length := by omega
    have hat : atC l l.length = 0 := by unfold atC; rw [List.getElem?_eq_none (Nat.le_refl _)]; rfl
    have hob : B.take (116 * l.length) = B := List.take_of_length_le (by rw [hll]; unfold chN; omega)
    have hlt2 : l.take l.length = l := List.take_length
    rw [hat, hob, hlt2]
    (repeat' (first | (refine gG ?_; try intro _) | (refine g_mv rfl ?_; first | refine mv_call_bel (fun w hk => blocks_any B.length (by omega) w) rfl rfl rfl rfl rfl (by kernel_rfl) ?_) | ((first | refine g_split rfl rfl tE (fun _ => ?_) (fun _ => ?_) | refine gk_cond rfl rfl tE (fun _ => ?_) (fun _ => ?_)) <;> (try first | (exfalso; omega; done) | (rename_i hx; exact absurd rfl hx) | (rename_i hx; cases hx; done)))))
    refine gk_freeze (.slice oA B.length oc) (by intro _; first | ((repeat (first | with_reducible exact Upd.here _ | with_reducible apply Upd.there)); done) | ((repeat (first | exact Upd.here _ | apply Upd.there)); done) | fail) (fun A1 c1 e a1 a2 a3 => ?_)
    injection e with eA _ ec
    subst eA
    subst ec
    refine gk_freeze (.slice lA l.length lc) (by intro _; first | ((repeat (first | with_reducible exact Upd.here _ | with_reducible apply Upd.there)); done) | ((repeat (first | exact Upd.here _ | apply Upd.there)); done) | fail) (fun A2 c2 e b1 b2 b3 => ?_)
    injection e with eA _ ec
    subst eA
    subst ec
    refine gk_ret hT rfl rfl (.tmp rfl (.tmp rfl (.tmp rfl .nil))) (fun w' hk => ?_)
    exact Ret.mk (⟨oA, oc, lA, lc⟩ : LdR) ⟨⟨rfl, a1, a2, a3⟩, ⟨rfl, b1, b2, b3⟩⟩ rfl hk sA
end Go.Proofs.Yteajefmnbalofaa.Ch

