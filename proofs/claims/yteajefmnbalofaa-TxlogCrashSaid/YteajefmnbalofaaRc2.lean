/- record: Get, Of; the reference's Get. -/
import Derived.Test.YteajefmnbalofaaRc
import Derived.Test.YteajefmnbalofaaRdL
namespace Go.Proofs.Yteajefmnbalofaa.Rec
open Go.RowKit Mem Gx Sls Bytes Rd OpA
set_option linter.unusedVariables false
set_option linter.unusedSimpArgs false
set_option maxRecDepth 100000
set_option maxHeartbeats 4000000
def pgR (L : List Int) : List Int × Int := Page.ofR 2 (Page.getS L)
def decR (B : List Int) : RecD := ⟨num (B.take 8), num ((B.drop 8).take 8), num ((B.drop 16).take 8), dec (B.drop 24) nS nS⟩
noncomputable def rcode (L : List Int) : Int := if (pgR L).2 ≠ 0 then (pgR L).2 else if (pgR L).1.length < 24 then 20 else codeL ((pgR L).1.drop 24)
structure GetR (L : List Int) (s : RecD × Int) : Prop where
  ok : s.1.Ok
  code : s.2 = rcode L
  yes : rcode L = 0 → sameR s.1 (decR (pgR L).1)
  no : rcode L ≠ 0 → sameR s.1 recZ
theorem pg_bd {L : List Int} (hB : IsB L) : IsB (pgR L).1 ∧ (pgR L).1.length ≤ 120 := by
  have key : IsB (Page.getS L).2.1 ∧ (Page.getS L).2.1.length ≤ 120 := by
    unfold Page.getS
    by_cases h1 : L.length ≠ 128
    · rw [if_pos h1]; exact ⟨IsB.nil, by simp⟩
    rw [if_neg h1]
    by_cases h2 : ¬ (1 ≤ L.getD 2 0 ∧ L.getD 2 0 ≤ 6) ∨ 120 < L.getD 3 0
    · rw [if_pos h2]; exact ⟨IsB.nil, by simp⟩
    rw [if_neg h2]
    split
    · exact ⟨IsB.nil, by simp⟩
    · split
      · exact ⟨IsB.nil, by simp⟩
      · refine ⟨Page.body_isB hB, ?_⟩
        show (Page.body L (L.getD 3 0).toNat).length ≤ 120
        unfold Page.body
        rw [List.length_take]; omega
  unfold pgR Page.ofR
  split
  · exact ⟨IsB.nil, by simp⟩
  · split
    · exact ⟨IsB.nil, by simp⟩
    · exact key
theorem code_nil : codeL [] = 20 := by unfold codeL; rw [if_pos (.inl (by simp))]
theorem rec_zero : recZ.Ok := ⟨kind_ok 0⟩
theorem same_zero : sameR recZ recZ := ⟨rfl, rfl, rfl, rfl, rfl, rfl, rfl, rfl, rfl, rfl, rfl⟩
theorem rcget_any (s0 : SlV) (L : List Int) (w : World) (hs0 : s0.Ok L.length) (hL : Sl w s0.A 1 (IE .u8) L) (hB : IsB L) :
    Calls Try.prog 62 [s0.v].toArray w (Ret (GetR L) (fun s => .tuple #[s.1.val, .int .i64 s.2]) (fun s => s.1.fs) w) := by
  obtain ⟨hBd, hBl⟩ := pg_bd hB
  refine g_enter0 T [] [] [sl s0.A 1 (IE .u8) L] Try.func62 rfl Try.ntmps62 rfl ((Kn.start w).argR hL (by decide) (fun _ h => by cases h)) ?_
  (repeat (refine gG ?_; try intro _))
  rename_i g2
  refine g_mv rfl ?_; refine mv_call_rt (fun w hk => pof_any 2 s0 L w hs0 (hk.pR (sl s0.A 1 (IE .u8) L) mE) hB) rfl rfl rfl rfl rfl (by kernel_rfl) (fun _ => rfl) (fun b hb => ?_)
  have hrc : rcode L = if (pgR L).2 ≠ 0 then (pgR L).2 else if (pgR L).1.length < 24 then 20 else codeL ((pgR L).1.drop 24) := rfl
  have hdec : decR (pgR L).1 = decR (pgR L).1 := rfl
  change b.Ok (pgR L).1.length at hb
  by_cases he : (pgR L).2 = 0
  · rw [if_neg (by simpa using he)] at hrc
    have he' : (Page.ofR 2 (Page.getS L)).2 = 0 := he
    (repeat' (first | (refine gG ?_; try intro _) | ((first | refine g_split rfl rfl tE (fun _ => ?_) (fun _ => ?_) | refine gk_cond rfl rfl tE (fun _ => ?_) (fun _ => ?_)) <;> (try first | (exfalso; omega; done) | (rename_i hx; exact absurd rfl hx) | (rename_i hx; cases hx; done)))))
    refine g_share (φ := sl b.A 1 (IE .u8) (pgR L).1) (by repeat (first | exact Sel.here | apply Sel.there)) ?_
    generalize hbe : (pgR L).1 = Bd at *
    have h99 : Bd.length ≤ 100000 := by omega
    refine g_mv rfl ?_; refine mv_call_rt (fun w hk => new_rd b w) rfl rfl rfl rfl rfl (by kernel_rfl) (fun _ => rfl) (fun gr _ => ?_)
    (repeat (refine gG ?_; try intro _))
    refine g_mv rfl ?_; refine mv_call_w (fun w hk => u64_p Bd Bd gr 0 b false w h99 (pos_start hBd) (in_of hk hb mE mE)) rfl rfl rfl rfl rfl (by kernel_rfl) (by intro _; first | ((repeat (first | with_reducible exact Upd.here _ | with_reducible apply Upd.there)); done) | ((repeat (first | exact Upd.here _ | apply Upd.there)); done) | fail) (fun ψ hψ => by first | (cases hψ; done) | (obtain rfl := List.mem_singleton.1 hψ; exact mE)) (fun _ => rfl) (fun _ => rfl) (fun r1 h1 => ?_)
    (repeat (refine gG ?_; try intro _))
    refine g_mv rfl ?_; refine mv_call_w (fun w hk => u64_p Bd r1.M gr 8 r1.q r1.bad w h99 h1.pos (in_of hk h1.nx.ok mE mE)) rfl rfl rfl rfl rfl (by kernel_rfl) (by intro _; first | ((repeat (first | with_reducible exact Upd.here _ | with_reducible apply Upd.there)); done) | ((repeat (first | exact Upd.here _ | apply Upd.there)); done) | fail) (fun ψ hψ => by first | (cases hψ; done) | (obtain rfl := List.mem_singleton.1 hψ; exact mE)) (fun _ => rfl) (fun _ => rfl) (fun r2 h2 => ?_)
    (repeat (refine gG ?_; try intro _))
    refine g_mv rfl ?_; refine mv_call_w (fun w hk => u64_p Bd r2.M gr 16 r2.q r2.bad w h99 h2.pos (in_of hk h2.nx.ok mE mE)) rfl rfl rfl rfl rfl (by kernel_rfl) (by intro _; first | ((repeat (first | with_reducible exact Upd.here _ | with_reducible apply Upd.there)); done) | ((repeat (first | exact Upd.here _ | apply Upd.there)); done) | fail) (fun ψ hψ => by first | (cases hψ; done) | (obtain rfl := List.mem_singleton.1 hψ; exact mE)) (fun _ => rfl) (fun _ => rfl) (fun r3 h3 => ?_)
    (repeat (refine gG ?_; try intro _))
    rename_i g7
    refine g_mv rfl ?_; refine mv_call_bel (fun w hk => left_rd gr r3.q r3.M r3.bad w (in_of hk h3.nx.ok mE mE)) rfl rfl rfl rfl rfl (by kernel_rfl) ?_
    have hM9 : r3.M.length ≤ 120 := by have := h3.pos.len; omega
    refine g_mv rfl ?_; refine mv_call_w (fun w hk => bytes_p Bd r3.M gr 24 r3.M.length r3.q r3.bad w (r3.M.length : Nat) rfl h99 (by omega) h3.pos (in_of hk h3.nx.ok mE mE)) rfl rfl rfl rfl rfl (by kernel_rfl) (by intro _; first | ((repeat (first | with_reducible exact Upd.here _ | with_reducible apply Upd.there)); done) | ((repeat (first | exact Upd.here _ | apply Upd.there)); done) | fail) (fun ψ hψ => by first | (cases hψ; done) | (obtain rfl := List.mem_singleton.1 hψ; exact mE)) (fun _ => rfl) (fun _ => rfl) (fun r4 k4 => ?_)
    have hD : r4.D = Bd.drop 24 := by
      by_cases h24 : 24 ≤ Bd.length
      · have hM := (h3.pos.ok h24).1
        have := k4.val (by rw [hM, List.length_drop]; omega)
        rw [this, hM, List.take_of_length_le (by simp only [List.length_drop]; omega)]
      · have hM := h3.pos.nl (by omega)
        have := k4.len
        rw [hM] at this
        rw [List.drop_of_length_le (by omega)]
        exact List.length_eq_zero_iff.1 (by simpa using this)
    have hcode : rcode L = codeL r4.D := by
      rw [hrc, hD]
      by_cases h24 : Bd.length < 24
      · rw [if_pos h24, List.drop_of_length_le (by omega), code_nil]
      · rw [if_neg h24]
    refine g_mv rfl ?_; refine mv_call_rt (fun w hk => get_any r4.d r4.D w k4.ok (hk.pO (sl r4.d.A 1 (IE .u8) r4.D) mE) k4.isB (by have := k4.len; omega)) rfl rfl rfl rfl rfl (by kernel_rfl) (fun _ => rfl) (fun s hs => ?_)
    by_cases hc : codeL r4.D = 0
    · have hc' : s.2 = 0 := by rw [hs.code, hc]
      have h24 : 24 ≤ Bd.length := by
        rcases Nat.lt_or_ge Bd.length 24 with h | h
        · rw [hD, List.drop_of_length_le (by omega), code_nil] at hc; cases hc
        · exact h
      (repeat' (first | (refine gG ?_; try intro _) | ((first | refine g_split rfl rfl tE (fun _ => ?_) (fun _ => ?_) | refine gk_cond rfl rfl tE (fun _ => ?_) (fun _ => ?_)) <;> (try first | (exfalso; omega; done) | (rename_i hx; exact absurd rfl hx) | (rename_i hx; cases hx; done)))))
      refine gk_ret hT rfl rfl (.cell rfl mE rfl rfl (.tmp rfl .nil)) (fun w' hk => ?_)
      refine Ret.mk (⟨r1.x, r2.x, r3.x, s.1⟩, 0) ⟨⟨hs.ok⟩, by rw [hcode, hc], fun _ => ⟨?_, ?_, ?_, ?_⟩, fun h => absurd (by rw [hcode, hc]) h⟩ rfl hk sA
      · rw [hbe]; exact h1.val (by omega)
      · rw [hbe]; exact h2.val (by omega)
      · rw [hbe]; exact h3.val (by omega)
      · rw [hbe]; have := hs.yes hc; rw [hD] at this; exact this
    · have hc' : ¬ s.2 = 0 := by rw [hs.code]; exact hc
      (repeat' (first | (refine gG ?_; try intro _) | ((first | refine g_split rfl rfl tE (fun _ => ?_) (fun _ => ?_) | refine gk_cond rfl rfl tE (fun _ => ?_) (fun _ => ?_)) <;> (try first | (exfalso; omega; done) | (rename_i hx; exact absurd rfl hx) | (rename_i hx; cases hx; done)))))
      refine gk_nilsl none 1 (IE .u8) ?_
      refine gk_nilsl none 1 (IE .i64) ?_
      refine gk_ret hT rfl rfl (.cell rfl mE rfl rfl (.tmp rfl .nil)) (fun w' hk => ?_)
      exact Ret.mk (recZ, s.2) ⟨rec_zero, by rw [hcode, hs.code], fun h => absurd (by rw [← hcode, h]) hc, fun _ => same_zero⟩ rfl hk sA
  · rw [if_pos (by simpa using he)] at hrc
    have he' : ¬ (Page.ofR 2 (Page.getS L)).2 = 0 := he
    (repeat' (first | (refine gG ?_; try intro _) | ((first | refine g_split rfl rfl tE (fun _ => ?_) (fun _ => ?_) | refine gk_cond rfl rfl tE (fun _ => ?_) (fun _ => ?_)) <;> (try first | (exfalso; omega; done) | (rename_i hx; exact absurd rfl hx) | (rename_i hx; cases hx; done)))))
    refine gk_nilsl none 1 (IE .u8) ?_
    refine gk_nilsl none 1 (IE .i64) ?_
    refine gk_ret hT rfl rfl (.cell rfl mE rfl rfl (.tmp rfl .nil)) (fun w' hk => ?_)
    exact Ret.mk (recZ, (pgR L).2) ⟨rec_zero, hrc.symm, fun h => absurd (by rw [← hrc, h]) he, fun _ => same_zero⟩ rfl hk sA
/-- What Of tells. -/
noncomputable def ocode (L : List Int) (g l : Int) : Int := if rcode L ≠ 0 then rcode L else if (decR (pgR L).1).g ≠ g ∨ (decR (pgR L).1).l ≠ l then 23 else 0
structure OfR (L : List Int) (g l : Int) (s : RecD × Int) : Prop where
  ok : s.1.Ok
  code : s.2 = ocode L g l
  yes : ocode L g l = 0 → sameR s.1 (decR (pgR L).1)
  no : ocode L g l ≠ 0 → sameR s.1 recZ
theorem rcof_any (s0 : SlV) (L : List Int) (g l : Int) (w : World) (hs0 : s0.Ok L.length) (hL : Sl w s0.A 1 (IE .u8) L) (hB : IsB L) :
    Calls Try.prog 39 [s0.v, .int .u64 g, .int .u64 l].toArray w (Ret (OfR L g l) (fun s => .tuple #[s.1.val, .int .i64 s.2]) (fun s => s.1.fs) w) := by
  refine g_enter0 T [] [] [sl s0.A 1 (IE .u8) L] Try.func39 rfl Try.ntmps39 rfl ((Kn.start w).argR hL (by decide) (fun _ h => by cases h)) ?_
  (repeat (refine gG ?_; try intro _))
  refine g_mv rfl ?_; refine mv_call_rt (fun w hk => rcget_any s0 L w hs0 (hk.pR (sl s0.A 1 (IE .u8) L) mE) hB) rfl rfl rfl rfl rfl (by kernel_rfl) (fun _ => rfl) (fun s hs => ?_)
  have hoc : ocode L g l = if rcode L ≠ 0 then rcode L else if (decR (pgR L).1).g ≠ g ∨ (decR (pgR L).1).l ≠ l then 23 else 0 := rfl
  by_cases hc : rcode L = 0
  · have hc' : s.2 = 0 := by rw [hs.code, hc]
    have hsame := hs.yes hc
    rw [if_neg (by simpa using hc)] at hoc
    by_cases hg : s.1.g = g ∧ s.1.l = l
    · obtain ⟨hg, hl⟩ := hg
      have hoc0 : ocode L g l = 0 := by rw [hoc, if_neg (by rw [← hsame.1, ← hsame.2.1]; simp [hg, hl])]
      (repeat' (first | (refine gG ?_; try intro _) | ((first | refine g_split rfl rfl tE (fun _ => ?_) (fun _ => ?_) | refine gk_cond rfl rfl tE (fun _ => ?_) (fun _ => ?_)) <;> (try first | (exfalso; omega; done) | (rename_i hx; exact absurd rfl hx) | (rename_i hx; cases hx; done)))))
      refine gk_ret hT rfl rfl (.cell rfl mE rfl rfl (.tmp rfl .nil)) (fun w' hk => ?_)
      exact Ret.mk (s.1, 0) ⟨hs.ok, hoc0.symm, fun _ => hsame, fun h => absurd hoc0 h⟩ rfl hk sA
    · have hoc23 : ocode L g l = 23 := by
        rw [hoc, if_pos]
        rw [← hsame.1, ← hsame.2.1]
        by_cases h1 : s.1.g = g
        · exact .inr (fun h2 => hg ⟨h1, h2⟩)
        · exact .inl h1
      (repeat' (first | (refine gG ?_; try intro _) | ((first | refine g_split rfl rfl tE (fun _ => ?_) (fun _ => ?_) | refine gk_cond rfl rfl tE (fun _ => ?_) (fun _ => ?_)) <;> (try first | (exfalso; omega; done) | (rename_i hx; exact absurd rfl hx) | (rename_i hx; cases hx; done)))))
      all_goals
        refine gk_nilsl none 1 (IE .u8) ?_
        refine gk_nilsl none 1 (IE .i64) ?_
        refine gk_ret hT rfl rfl (.cell rfl mE rfl rfl (.tmp rfl .nil)) (fun w' hk => ?_)
        exact Ret.mk (recZ, 23) ⟨rec_zero, hoc23.symm, fun h => (by rw [hoc23] at h; cases h), fun _ => same_zero⟩ rfl hk sA
  · have hc' : ¬ s.2 = 0 := by rw [hs.code]; exact hc
    rw [if_pos (by simpa using hc)] at hoc
    (repeat' (first | (refine gG ?_; try intro _) | ((first | refine g_split rfl rfl tE (fun _ => ?_) (fun _ => ?_) | refine gk_cond rfl rfl tE (fun _ => ?_) (fun _ => ?_)) <;> (try first | (exfalso; omega; done) | (rename_i hx; exact absurd rfl hx) | (rename_i hx; cases hx; done)))))
    refine gk_nilsl none 1 (IE .u8) ?_
    refine gk_nilsl none 1 (IE .i64) ?_
    refine gk_ret hT rfl rfl (.cell rfl mE rfl rfl (.tmp rfl .nil)) (fun w' hk => ?_)
    exact Ret.mk (recZ, s.2) ⟨rec_zero, by rw [hoc, hs.code], fun h => absurd (by rw [← hoc, h]) hc, fun _ => same_zero⟩ rfl hk sA
end Go.Proofs.Yteajefmnbalofaa.Rec
