/- op: the reference's Plain. -/
import Derived.Test.YteajefmnbalofaaOpB2
import Derived.Test.YteajefmnbalofaaSls
namespace Go.Proofs.Yteajefmnbalofaa.OpA
open Go.RowKit Mem Gx Sls
set_option linter.unusedVariables false
set_option linter.unusedSimpArgs false
set_option maxRecDepth 100000
set_option maxHeartbeats 2000000
/-- What is left of an operation, of these letters. -/
structure PlainAt (o : OpD) (l : List Nat) (p : OpD) : Prop where
  ek : p.k = o.k
  ev : p.v = if 118 ∈ l then o.v else 0
  ei : p.i = if 105 ∈ l then o.i else 0
  eb : p.b = if 98 ∈ l then o.b else 0
  ec : p.c = if 110 ∈ l then o.c else 0
  ep : p.p = if 112 ∈ l then o.p else 0
  eD : p.D = if 100 ∈ l then o.D else []
  eM : p.M = if 109 ∈ l then o.M else []
  ok : p.Ok
theorem take_mem {l : List Nat} {i x : Nat} (hx : l[i]? = some x) (y : Nat) : y ∈ l.take (i + 1) ↔ y ∈ l.take i ∨ y = x := by
  have hk : i < l.length := by
    rcases Nat.lt_or_ge i l.length with h1 | h1
    · exact h1
    · rw [List.getElem?_eq_none h1] at hx; cases hx
  rw [List.take_succ_eq_append_getElem hk]
  rw [List.getElem?_eq_getElem hk] at hx
  injection hx with hx
  simp [hx]
/-- One letter more. -/
theorem PlainAt.step {o p p' : OpD} {l : List Nat} {i x : Nat} (h : PlainAt o (l.take i) p) (hx : l[i]? = some x) (hk : p'.k = p.k) (hv : p'.v = if x = 118 then o.v else p.v) (hi : p'.i = if x = 105 then o.i else p.i)
    (hb : p'.b = if x = 98 then o.b else p.b) (hc : p'.c = if x = 110 then o.c else p.c) (hp : p'.p = if x = 112 then o.p else p.p) (hD : p'.D = if x = 100 then o.D else p.D) (hM : p'.M = if x = 109 then o.M else p.M) (hok : p'.Ok) : PlainAt o (l.take (i + 1)) p' := by
  obtain ⟨k0, v0, i0, b0, c0, p0, D0, M0, _⟩ := h
  refine ⟨by rw [hk, k0], ?_, ?_, ?_, ?_, ?_, ?_, ?_, hok⟩
  · rw [hv, v0]; simp only [take_mem hx]; by_cases h1 : x = 118 <;> by_cases h2 : 118 ∈ l.take i <;> simp [h1, h2, eq_comm]
  · rw [hi, i0]; simp only [take_mem hx]; by_cases h1 : x = 105 <;> by_cases h2 : 105 ∈ l.take i <;> simp [h1, h2, eq_comm]
  · rw [hb, b0]; simp only [take_mem hx]; by_cases h1 : x = 98 <;> by_cases h2 : 98 ∈ l.take i <;> simp [h1, h2, eq_comm]
  · rw [hc, c0]; simp only [take_mem hx]; by_cases h1 : x = 110 <;> by_cases h2 : 110 ∈ l.take i <;> simp [h1, h2, eq_comm]
  · rw [hp, p0]; simp only [take_mem hx]; by_cases h1 : x = 112 <;> by_cases h2 : 112 ∈ l.take i <;> simp [h1, h2, eq_comm]
  · rw [hD, D0]; simp only [take_mem hx]; by_cases h1 : x = 100 <;> by_cases h2 : 100 ∈ l.take i <;> simp [h1, h2, eq_comm]
  · rw [hM, M0]; simp only [take_mem hx]; by_cases h1 : x = 109 <;> by_cases h2 : 109 ∈ l.take i <;> simp [h1, h2, eq_comm]
def OpD.cells (o : OpD) : List Value := [.int .i64 o.k, .int .i64 o.v, .int .i64 o.i, .int .i64 o.b, .int .i64 o.c, .int .u64 o.p, o.a.v, o.m.v]
theorem rplain_any (o : OpD) (w : World) (ho : o.Ok) (hi : o.In w) (hD9 : o.D.length ≤ 100000) (hM9 : o.M.length ≤ 100000) : Calls Try.prog 12 [o.val].toArray w (Ret (PlainAt o (looks o.k)) OpD.val OpD.fs w) := by
  have h3 : (looks o.k).length ≤ 3 := looks_len o.k
  have en := ho.a.n
  have em := ho.m.n
  refine g_enter0 T [] [] [sl o.m.A 1 (IE .i64) o.M, sl o.a.A 1 (IE .u8) o.D] Try.func12 rfl Try.ntmps12 rfl (((Kn.start w).argR hi.a (by decide) (fun _ h => by cases h)).argR hi.m (by decide) (fun _ h => by cases h)) ?_
  (repeat' (first | (refine gG ?_; try intro _) | (refine g_mv rfl ?_; first | refine mv_call_bel (fun w hk => looks_any _ w) rfl rfl rfl rfl rfl (by kernel_rfl) ?_) | ((first | refine g_split rfl rfl tE (fun _ => ?_) (fun _ => ?_) | refine gk_cond rfl rfl tE (fun _ => ?_) (fun _ => ?_)) <;> (try first | (exfalso; omega; done) | (rename_i hx; exact absurd rfl hx) | (rename_i hx; cases hx; done)))))
  rename_i g1 g2 g3
  refine gk_nilsl none 1 (IE .u8) ?_
  refine gk_nilsl none 1 (IE .i64) ?_
  refine gk_loop (fun s : Nat × OpD => s.1 ≤ (looks o.k).length ∧ PlainAt o ((looks o.k).take s.1) s.2) (fun s => [(1, .pointer (some ⟨g1, 0, none⟩)), (2, .pointer (some ⟨g2, 0, none⟩)), (3, .pointer (some ⟨g3, 0, none⟩)), (4, .string ⟨((looks o.k).map UInt8.ofNat).toArray⟩), (6, .int .i64 s.1)])
    (fun s => [sl s.2.m.A 1 (IE .i64) s.2.M, sl s.2.a.A 1 (IE .u8) s.2.D, blk g3 s.2.cells 39, blk g2 [.int .i64 0, .int .i64 0, .int .i64 0, .int .i64 0, .int .i64 0, .int .u64 0, .slice none 0 0, .slice none 0 0] 39, blk g1 o.cells 39]) (fun _ => [sl o.m.A 1 (IE .i64) o.M, sl o.a.A 1 (IE .u8) o.D])
    (fun s => (looks o.k).length - s.1) (0, ⟨o.k, 0, 0, 0, 0, 0, ⟨none, 0, 0⟩, [], ⟨none, 0, 0⟩, []⟩) rfl ⟨Nat.zero_le _, ⟨rfl, rfl, rfl, rfl, rfl, rfl, rfl, rfl, ⟨rfl, Nat.le_refl _, Nat.zero_le _, fun _ => rfl⟩, ⟨rfl, Nat.le_refl _, Nat.zero_le _, fun _ => rfl⟩⟩⟩ ⟨rfl, rfl, rfl, rfl, rfl, trivial⟩ sL sS ?_
  rintro ⟨i, p⟩ ⟨hle, hp⟩
  dsimp only at hle hp
  (repeat (refine gG ?_; try intro _))
  refine gk_cond rfl rfl (tells_tB _) (fun h1 => ?_) (fun h1 => ?_)
  · replace h1 : ((i : Nat) : Int) < ((strOf (looks o.k)).size : Int) := h1
    rw [strOf_size] at h1
    have hil : i < (looks o.k).length := by omega
    obtain ⟨x, hx⟩ : ∃ x, (looks o.k)[i]? = some x := ⟨_, List.getElem?_eq_getElem hil⟩
    have hx9 : x < 256 := looks_lt _ x (List.mem_of_getElem? hx)
    (repeat (refine gG ?_; try intro _))
    refine g_yd rfl rfl (yd_index (jj := (i : Int)) (j := undef) hT rfl rfl rfl (by omega) (idxV_nat rfl hx hx9)) ?_
    (repeat' (first | (refine gG1 ?_; try intro _) | ((first | refine g_split rfl rfl tE (fun _ => ?_) (fun _ => ?_) | refine gk_cond rfl rfl tE (fun _ => ?_) (fun _ => ?_)) <;> (try first | (exfalso; omega; done) | (rename_i hx; exact absurd rfl hx) | (rename_i hx; cases hx; done)))))
    · refine gk_again rfl (i + 1, { p with v := o.v }) ⟨by dsimp only; omega, hp.step hx rfl (by first | rw [if_pos (by omega)] | rw [if_neg (by omega)]) (by first | rw [if_pos (by omega)] | rw [if_neg (by omega)]) (by first | rw [if_pos (by omega)] | rw [if_neg (by omega)]) (by first | rw [if_pos (by omega)] | rw [if_neg (by omega)]) (by first | rw [if_pos (by omega)] | rw [if_neg (by omega)]) (by first | rw [if_pos (by omega)] | rw [if_neg (by omega)]) (by first | rw [if_pos (by omega)] | rw [if_neg (by omega)]) ⟨hp.ok.a, hp.ok.m⟩⟩ (by dsimp only; omega) ⟨rfl, rfl, rfl, rfl, rfl, trivial⟩ sL sS
    · refine gk_again rfl (i + 1, { p with i := o.i }) ⟨by dsimp only; omega, hp.step hx rfl (by first | rw [if_pos (by omega)] | rw [if_neg (by omega)]) (by first | rw [if_pos (by omega)] | rw [if_neg (by omega)]) (by first | rw [if_pos (by omega)] | rw [if_neg (by omega)]) (by first | rw [if_pos (by omega)] | rw [if_neg (by omega)]) (by first | rw [if_pos (by omega)] | rw [if_neg (by omega)]) (by first | rw [if_pos (by omega)] | rw [if_neg (by omega)]) (by first | rw [if_pos (by omega)] | rw [if_neg (by omega)]) ⟨hp.ok.a, hp.ok.m⟩⟩ (by dsimp only; omega) ⟨rfl, rfl, rfl, rfl, rfl, trivial⟩ sL sS
    · refine gk_again rfl (i + 1, { p with b := o.b }) ⟨by dsimp only; omega, hp.step hx rfl (by first | rw [if_pos (by omega)] | rw [if_neg (by omega)]) (by first | rw [if_pos (by omega)] | rw [if_neg (by omega)]) (by first | rw [if_pos (by omega)] | rw [if_neg (by omega)]) (by first | rw [if_pos (by omega)] | rw [if_neg (by omega)]) (by first | rw [if_pos (by omega)] | rw [if_neg (by omega)]) (by first | rw [if_pos (by omega)] | rw [if_neg (by omega)]) (by first | rw [if_pos (by omega)] | rw [if_neg (by omega)]) ⟨hp.ok.a, hp.ok.m⟩⟩ (by dsimp only; omega) ⟨rfl, rfl, rfl, rfl, rfl, trivial⟩ sL sS
    · refine gk_again rfl (i + 1, { p with c := o.c }) ⟨by dsimp only; omega, hp.step hx rfl (by first | rw [if_pos (by omega)] | rw [if_neg (by omega)]) (by first | rw [if_pos (by omega)] | rw [if_neg (by omega)]) (by first | rw [if_pos (by omega)] | rw [if_neg (by omega)]) (by first | rw [if_pos (by omega)] | rw [if_neg (by omega)]) (by first | rw [if_pos (by omega)] | rw [if_neg (by omega)]) (by first | rw [if_pos (by omega)] | rw [if_neg (by omega)]) (by first | rw [if_pos (by omega)] | rw [if_neg (by omega)]) ⟨hp.ok.a, hp.ok.m⟩⟩ (by dsimp only; omega) ⟨rfl, rfl, rfl, rfl, rfl, trivial⟩ sL sS
    · refine gk_again rfl (i + 1, { p with p := o.p }) ⟨by dsimp only; omega, hp.step hx rfl (by first | rw [if_pos (by omega)] | rw [if_neg (by omega)]) (by first | rw [if_pos (by omega)] | rw [if_neg (by omega)]) (by first | rw [if_pos (by omega)] | rw [if_neg (by omega)]) (by first | rw [if_pos (by omega)] | rw [if_neg (by omega)]) (by first | rw [if_pos (by omega)] | rw [if_neg (by omega)]) (by first | rw [if_pos (by omega)] | rw [if_neg (by omega)]) (by first | rw [if_pos (by omega)] | rw [if_neg (by omega)]) ⟨hp.ok.a, hp.ok.m⟩⟩ (by dsimp only; omega) ⟨rfl, rfl, rfl, rfl, rfl, trivial⟩ sL sS
    · refine g_mv rfl (mv_empty 1 (IE .u8) rfl hT rfl rfl rfl rfl rfl (fun g => ?_))
      (repeat (refine gG1 ?_; try intro _))
      refine g_mv rfl (mv_append (L := []) rfl o.D rfl rfl rfl rfl elt_B (by intro _; first | ((repeat (first | with_reducible exact Upd.here _ | with_reducible apply Upd.there)); done) | ((repeat (first | exact Upd.here _ | apply Upd.there)); done) | fail) (src_R mE) en (by intro x j; rfl) (by simp [maxLen]; omega) (by simp; omega) (Nat.zero_le _) (fun v => ?_))
      refine g_freeze _ (by intro _; first | ((repeat (first | with_reducible exact Upd.here _ | with_reducible apply Upd.there)); done) | ((repeat (first | exact Upd.here _ | apply Upd.there)); done) | fail) (fun A2 c2 hA2 hA21 hA22 hA23 => ?_); subst hA2
      (repeat (refine gG1 ?_; try intro _))
      refine gk_again_sel rfl (i + 1, { p with a := ⟨A2, o.D.length, c2⟩, D := o.D }) ⟨by dsimp only; omega, hp.step hx rfl (by first | rw [if_pos (by omega)] | rw [if_neg (by omega)]) (by first | rw [if_pos (by omega)] | rw [if_neg (by omega)]) (by first | rw [if_pos (by omega)] | rw [if_neg (by omega)]) (by first | rw [if_pos (by omega)] | rw [if_neg (by omega)]) (by first | rw [if_pos (by omega)] | rw [if_neg (by omega)]) (by first | rw [if_pos (by omega)] | rw [if_neg (by omega)]) (by first | rw [if_pos (by omega)] | rw [if_neg (by omega)]) ⟨⟨rfl, by simpa using hA21, hA22, hA23⟩, hp.ok.m⟩⟩ (by dsimp only; omega) ⟨rfl, rfl, rfl, rfl, rfl, trivial⟩ sA sS
    · refine g_mv rfl (mv_empty 1 (IE .i64) rfl hT rfl rfl rfl rfl rfl (fun g => ?_))
      (repeat (refine gG1 ?_; try intro _))
      refine g_mv rfl (mv_append (L := []) rfl o.M rfl rfl rfl rfl elt_I (by intro _; first | ((repeat (first | with_reducible exact Upd.here _ | with_reducible apply Upd.there)); done) | ((repeat (first | exact Upd.here _ | apply Upd.there)); done) | fail) (src_R mE) em (by intro x j; rfl) (by simp [maxLen]; omega) (by simp; omega) (Nat.zero_le _) (fun v => ?_))
      refine g_freeze _ (by intro _; first | ((repeat (first | with_reducible exact Upd.here _ | with_reducible apply Upd.there)); done) | ((repeat (first | exact Upd.here _ | apply Upd.there)); done) | fail) (fun A2 c2 hA2 hA21 hA22 hA23 => ?_); subst hA2
      (repeat (refine gG1 ?_; try intro _))
      refine gk_again_sel rfl (i + 1, { p with m := ⟨A2, o.M.length, c2⟩, M := o.M }) ⟨by dsimp only; omega, hp.step hx rfl (by first | rw [if_pos (by omega)] | rw [if_neg (by omega)]) (by first | rw [if_pos (by omega)] | rw [if_neg (by omega)]) (by first | rw [if_pos (by omega)] | rw [if_neg (by omega)]) (by first | rw [if_pos (by omega)] | rw [if_neg (by omega)]) (by first | rw [if_pos (by omega)] | rw [if_neg (by omega)]) (by first | rw [if_pos (by omega)] | rw [if_neg (by omega)]) (by first | rw [if_pos (by omega)] | rw [if_neg (by omega)]) ⟨hp.ok.a, ⟨rfl, by simpa using hA21, hA22, hA23⟩⟩⟩ (by dsimp only; omega) ⟨rfl, rfl, rfl, rfl, rfl, trivial⟩ sA sS
    · refine gk_again rfl (i + 1, p) ⟨by dsimp only; omega, hp.step hx rfl (by first | rw [if_pos (by omega)] | rw [if_neg (by omega)]) (by first | rw [if_pos (by omega)] | rw [if_neg (by omega)]) (by first | rw [if_pos (by omega)] | rw [if_neg (by omega)]) (by first | rw [if_pos (by omega)] | rw [if_neg (by omega)]) (by first | rw [if_pos (by omega)] | rw [if_neg (by omega)]) (by first | rw [if_pos (by omega)] | rw [if_neg (by omega)]) (by first | rw [if_pos (by omega)] | rw [if_neg (by omega)]) ⟨hp.ok.a, hp.ok.m⟩⟩ (by dsimp only; omega) ⟨rfl, rfl, rfl, rfl, rfl, trivial⟩ sL sS
  · have hil : i = (looks o.k).length := by
      replace h1 : ¬ ((i : Nat) : Int) < ((strOf (looks o.k)).size : Int) := h1
      rw [strOf_size] at h1
      omega
    rw [hil, List.take_length] at hp
    (repeat (refine gG ?_; try intro _))
    refine gk_ret hT rfl rfl (.cell rfl mE rfl rfl .nil) (fun w' hk => ?_)
    exact Ret.mk p hp rfl hk sA
end Go.Proofs.Yteajefmnbalofaa.OpA
