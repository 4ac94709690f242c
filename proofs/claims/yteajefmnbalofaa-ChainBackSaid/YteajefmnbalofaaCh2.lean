/- chain.Save. -/
import Derived.Test.YteajefmnbalofaaCh1
import Derived.Test.YteajefmnbalofaaAl4
namespace Go.Proofs.Yteajefmnbalofaa.Ch
open Go.RowKit Mem Gx Bytes Dk Al Rf Hp
set_option linter.unusedVariables false
set_option linter.unusedSimpArgs false
set_option maxRecDepth 100000
set_option maxHeartbeats 4000000
theorem joinR {X : Cx} {ops rest : List Oper} {k : List KI} {ι : Type} (P : ι → Prop) (F : ι → Fr) (OO RR : ι → List Fact) {q : Prop} (r : Later (∀ i, P i → G X ops rest k (F i) (OO i) (RR i)) → q) (g : ∀ i, P i → G X ops rest k (F i) (OO i) (RR i)) : q := r ⟨g⟩
theorem dk_snoc {S : List SecD} {W : List WrD} {a : Nat} {d : SecD} (h : DkOk S W) (ha : a < S.length) (hd : d.Ok) : DkOk S (W ++ [(⟨a, d⟩ : WrD)]) := ⟨h.s, fun x hx => by
  rcases List.mem_append.1 hx with hx | hx
  · exact h.w x hx
  · obtain rfl := List.mem_singleton.1 hx
    exact ⟨hd, ha⟩, h.n⟩
theorem read_snoc {S : List SecD} {W : List WrD} {p : Nat} {d : SecD} (a : Nat) : dread (S.map SecD.L) ((W ++ [(⟨p, d⟩ : WrD)]).map WrD.c) a = if p = a then d.L else dread (S.map SecD.L) (W.map WrD.c) a := by
  rw [List.map_append]
  exact dread_snoc _ _ _ _
theorem elt_B : Elt Try.prog 36 5 1 1 := Elt.mk' (z := .int .u8 0) Try.underlying36 (by kernel_rfl) rfl (by decide)
/-- The block behind, or 0. -/
def nxt (l : List Int) (j : Nat) : Int := (l[j + 1]?).getD 0
/-- What a block of a chain says. -/
def bodyC (B : List Int) (l : List Int) (j : Nat) : List Int := le (nxt l j) 4 ++ (B.drop (116 * j)).take (ckN B.length j)
def PGk (B : List Int) (l : List Int) (j : Nat) : Sec := Page.page 5 (bodyC B l j)
theorem ck_len {B : List Int} {q : Nat} (h : 116 * q < B.length) : ((B.drop (116 * q)).take (ckN B.length q)).length = ckN B.length q := by
  have := ckN_pos h
  rw [List.length_take, List.length_drop]; omega
theorem body_len {B l : List Int} {q : Nat} (h : 116 * q < B.length) : (bodyC B l q).length = 4 + ckN B.length q := by
  unfold bodyC
  rw [List.length_append, le_length, ck_len h]
theorem body_isB {B l : List Int} {q : Nat} (hB : IsB B) : IsB (bodyC B l q) := (le_isB _ _).append ((hB.drop _).take _)
/-- What is known of the disk behind q blocks. -/
structure SvI (S : List SecD) (n0 : Nat) (B l : List Int) (lg q : Nat) (W : List WrD) : Prop where
  d : DkOk S W
  n : W.length ≤ n0 + q
  rd : ∀ (j x : Nat), j < q → l[j]? = some (x : Int) → dread (S.map SecD.L) (W.map WrD.c) (x + lg + 1) = PGk B l j
theorem SvI.step {S : List SecD} {n0 : Nat} {B l : List Int} {lg q y : Nat} {W : List WrD} {d : SecD} (h : SvI S n0 B l lg q W) (hl : l.Nodup) (hy : l[q]? = some (y : Int)) (hS : y + lg + 1 < S.length) (hd : d.Ok) (hL : d.L = PGk B l q) : SvI S n0 B l lg (q + 1) (W ++ [(⟨y + lg + 1, d⟩ : WrD)]) := by
  refine ⟨dk_snoc h.d hS hd, by rw [List.length_append]; have := h.n; simp; omega, fun j x hj hx => ?_⟩
  rw [read_snoc]
  by_cases e : j = q
  · subst e
    rw [hy] at hx
    have hxy : y = x := by have := Option.some.inj hx; omega
    rw [if_pos (by rw [hxy]), hL]
  · rw [if_neg (fun h2 => e (by
      have hxy : x = y := by omega
      subst hxy
      have h3 := (List.getElem?_eq_some_iff.1 hx).1
      exact (List.getElem?_inj h3 hl).1 (hx.trans hy.symm))), h.rd j x (by omega) hx]
/-- Taken. -/
def takeS (s : AlS) (k : Nat) : AlS := ⟨s.S.drop k, s.l ++ s.S.take k, s.U, s.L⟩
theorem take_0 (s : AlS) : takeS s 0 = s := by unfold takeS; simp
theorem take_step {s : AlS} {k : Nat} {x : Int} (h : s.S[k]? = some x) : takeA (takeS s k) = (takeS s (k + 1), x, 0) := by
  obtain ⟨h1, h2⟩ := List.getElem?_eq_some_iff.1 h
  have e : s.S.drop k = x :: s.S.drop (k + 1) := by rw [List.drop_eq_getElem_cons h1, h2]
  have e2 : s.S.take (k + 1) = s.S.take k ++ [x] := by rw [List.take_add_one, h]; rfl
  unfold takeA takeS
  dsimp only
  rw [e]
  dsimp only
  rw [e2, List.append_assoc]
structure SvR where
  D : AlD
  lv : Value
  W : List WrD
  A : Option Addr
  c : Nat
theorem csave_full (bA : Option Addr) (bn bc : Nat) (B : List Int) (pa n : Nat) (D : AlD) (s : AlS) (pl : Value) (w : World) (hbn : bn = B.length) (h9 : B.length ≤ 100000) (hI : AlI n D s) (hN : s.S.length < chN B.length) (ha : Rd1 w (alF pa n D s)) (hpl : ∃ a b, pl = .agg #[.pointer a, .int .i64 b]) :
    Calls Try.prog 23 [.slice bA bn bc, .pointer (some ⟨pa, 0, none⟩), pl].toArray w fun e w' => e = .returned (.tuple #[.slice none 0 0, .int .i64 30]) ∧ Below w.heap.size w w' := by
  obtain ⟨p1, p2, rfl⟩ := hpl
  subst hbn
  refine g_enter0 T [] [] [alF pa n D s] Try.func23 rfl Try.ntmps23 rfl (Rds.cons ha .nil).kn ?_
  (repeat' (first | (refine gG ?_; try intro _) | (refine g_mv rfl ?_; first | refine mv_call_bel (fun w hk => blocks_any B.length (by omega) w) rfl rfl rfl rfl rfl (by kernel_rfl) ?_ | refine mv_call_bel (fun w hk => afree_any pa n D s w hI (hk.rR (φ := alF pa n D s) mE)) rfl rfl rfl rfl rfl (by kernel_rfl) ?_) | ((first | refine g_split rfl rfl tE (fun _ => ?_) (fun _ => ?_) | refine gk_cond rfl rfl tE (fun _ => ?_) (fun _ => ?_)) <;> (try first | (exfalso; omega; done) | (rename_i hx; exact absurd rfl hx) | (rename_i hx; cases hx; done)))))
  refine gk_ret hT rfl rfl (.tmp rfl (.tmp rfl .nil)) (fun w' hk => ?_)
  exact ⟨rfl, hk.toBelow⟩
theorem csave_any (bA : Option Addr) (bn bc : Nat) (B : List Int) (pa n : Nat) (D : AlD) (s : AlS) (g lg N : Nat) (sv lv : Value) (S : List SecD) (W : List WrD) (w : World) (hbn : bn = B.length) (hbc : bn ≤ bc) (hbm : bc ≤ maxLen) (hB : IsB B) (h9 : B.length ≤ 100000)
    (hI : AlI n D s) (hlg : lg ≤ 1000) (hn : n + lg + 1 < S.length) (hl9 : s.l.length + N < 1000) (hNe : N = chN B.length) (hN : N ≤ s.S.length) (hdk : DkOk S W) (hW : W.length ≤ 50000) (hb : Rd1 w ((sl bA 1 (IE .u8) B))) (hbd : ∀ b, (packF [alF pa n D s, dkF g ⟨sv, lv, S, W⟩]).S b → ¬ ((sl bA 1 (IE .u8) B)).S b) (h : Rd1 w (packF [alF pa n D s, dkF g ⟨sv, lv, S, W⟩])) :
    Calls Try.prog 23 [.slice bA bn bc, .pointer (some ⟨pa, 0, none⟩), .agg #[.pointer (some ⟨g, 0, none⟩), .int .i64 (lg : Nat)]].toArray w (RetM (packF [alF pa n D s, dkF g ⟨sv, lv, S, W⟩]) (fun q : SvR => AlI n q.D (takeS s N) ∧ SvI S W.length B (s.S.take N) lg N q.W ∧ (SlV.mk q.A N q.c).Ok N) (fun q => .tuple #[.slice q.A N q.c, .int .i64 0]) (fun q => packF [alF pa n q.D (takeS s N), dkF g ⟨sv, q.lv, S, q.W⟩, sl q.A 1 (IE .u32) (s.S.take N)]) w) := by
  have hfr := hI.fr
  have hlens := hI.p.lens
  have hpos := fun b => hI.p.pos (b := b)
  have hnd : (s.S.take N).Nodup := ((hI.p.sorted.imp fun h => by omega : s.S.Nodup)).sublist (List.take_sublist _ _)
  have hlT : (s.S.take N).length = N := by rw [List.length_take]; omega
  have hn9 := hdk.n
  refine g_enter0 T (finE (packF [alF pa n D s, dkF g ⟨sv, lv, S, W⟩]) w) [alF pa n D s, dkF g ⟨sv, lv, S, W⟩] [(sl bA 1 (IE .u8) B)] Try.func23 rfl Try.ntmps23 rfl (Kn.startP h (fun b hb => (finE_mem h.2 b).2 hb) (fun ψ hψ => by obtain rfl := List.mem_singleton.1 hψ; exact ⟨hb, hbd⟩)) ?_
  subst hbn
  (repeat' (first | (refine gG ?_; try intro _) | (refine g_mv rfl ?_; first | refine mv_call_bel (fun w hk => blocks_any B.length (by omega) w) rfl rfl rfl rfl rfl (by kernel_rfl) ?_ | refine mv_call_bel (fun w hk => afree_any pa n D s w hI (hk.rO (φ := alF pa n D s) mE)) rfl rfl rfl rfl rfl (by kernel_rfl) ?_) | ((first | refine g_split rfl rfl tE (fun _ => ?_) (fun _ => ?_) | refine gk_cond rfl rfl tE (fun _ => ?_) (fun _ => ?_)) <;> (try first | (exfalso; omega; done) | (rename_i hx; exact absurd rfl hx) | (rename_i hx; cases hx; done)))))
  rw [← hNe]
  rename_i b5 _ b8
  refine gk_own 0 60 1 (IE .u32) ?_
  refine gk_loop_sel (fun (q : Nat × AlD × (Option Addr) × Nat) => match q with | (k, D1, A, c) => (k ≤ N ∧ AlI n D1 (takeS s k))) (fun (q : Nat × AlD × (Option Addr) × Nat) => match q with | (k, D1, A, c) => [(0, .slice bA B.length bc), (1, .pointer (some ⟨pa, 0, none⟩)), (5, .pointer (some ⟨b5, 0, none⟩)), (8, .pointer (some ⟨b8, 0, none⟩)), (24, .int .i64 (N : Nat)), (25, .int .i64 (k : Nat))]) (fun (q : Nat × AlD × (Option Addr) × Nat) => match q with | (k, D1, A, c) => [blk b5 [.pointer (some ⟨g, 0, none⟩), .int .i64 (lg : Nat)] 56, blk b8 [.slice A (s.S.take k).length c] 63, own 0 60 1 (.slice A (s.S.take k).length c) (IE .u32) (s.S.take k), alF pa n D1 (takeS s k), dkF g ⟨sv, lv, S, W⟩]) (fun (q : Nat × AlD × (Option Addr) × Nat) => match q with | (k, D1, A, c) => [(sl bA 1 (IE .u8) B)]) (fun (q : Nat × AlD × (Option Addr) × Nat) => match q with | (k, D1, A, c) => N - k) (0, D, none, 0) rfl ⟨Nat.zero_le _, by rw [take_0]; exact hI⟩ (by repeat (first | exact trivial | refine ⟨rfl, ?_⟩)) sA sS ?_
  rintro ⟨k, D1, A, c⟩ hI
  replace hI : (k ≤ N ∧ AlI n D1 (takeS s k)) := hI
  change GK _ _ [(0, .slice bA B.length bc), (1, .pointer (some ⟨pa, 0, none⟩)), (5, .pointer (some ⟨b5, 0, none⟩)), (8, .pointer (some ⟨b8, 0, none⟩)), (24, .int .i64 (N : Nat)), (25, .int .i64 (k : Nat))] [blk b5 [.pointer (some ⟨g, 0, none⟩), .int .i64 (lg : Nat)] 56, blk b8 [.slice A (s.S.take k).length c] 63, own 0 60 1 (.slice A (s.S.take k).length c) (IE .u32) (s.S.take k), alF pa n D1 (takeS s k), dkF g ⟨sv, lv, S, W⟩] [(sl bA 1 (IE .u8) B)]
  obtain ⟨hk1, hI1⟩ := hI
  by_cases hlt : k < N
  · obtain ⟨x, hx⟩ : ∃ x, s.S[k]? = some x := ⟨s.S[k], List.getElem?_eq_getElem (by omega)⟩
    have hts := take_step hx
    have htl : (takeS s k).l.length < 1000 := by show (s.l ++ s.S.take k).length < 1000; rw [List.length_append, List.length_take]; omega
    (repeat' (first | (refine gG ?_; try intro _) | ((first | refine g_split rfl rfl tE (fun _ => ?_) (fun _ => ?_) | refine gk_cond rfl rfl tE (fun _ => ?_) (fun _ => ?_)) <;> (try first | (exfalso; omega; done) | (rename_i hx; exact absurd rfl hx) | (rename_i hx; cases hx; done)))))
    refine g_mv rfl (mv_call_mod (φ := alF pa n D1 (takeS s k)) (ψ := fun r : AlD × AlS × Int × Int => alF pa n r.1 r.2.1) (fun w1 hk => by exact atake_any pa n D1 (takeS s k) w1 htl hI1 (hk.rO (φ := alF pa n D1 (takeS s k)) mE)) rfl rfl rfl rfl rfl (by kernel_rfl) (by intro _; first | ((repeat (first | with_reducible exact Upd.here _ | with_reducible apply Upd.there)); done) | ((repeat (first | exact Upd.here _ | apply Upd.there)); done) | fail) (fun r hr => ?_))
    obtain ⟨D2, s2, y, e⟩ := r
    obtain ⟨hI2, hr2⟩ := hr
    dsimp only at hI2 hr2
    rw [hts] at hr2
    obtain ⟨rfl, rfl, rfl⟩ : s2 = takeS s (k + 1) ∧ y = x ∧ e = 0 := by injection hr2 with h1 h2; injection h2 with h2 h3; exact ⟨h1, h2, h3⟩
    dsimp only
    have e2 : s.S.take (k + 1) = s.S.take k ++ [y] := by rw [List.take_add_one, hx]; rfl
    have hl1 : (s.S.take k).length = k := by rw [List.length_take]; omega
    (repeat (refine gG ?_; try intro _))
    refine g_mv rfl (mv_append (L := (s.S.take k)) rfl [y] rfl rfl rfl rfl elt_U (by intro _; first | ((repeat (first | with_reducible exact Upd.here _ | with_reducible apply Upd.there)); done) | ((repeat (first | exact Upd.here _ | apply Upd.there)); done) | fail) (src_blk mE rfl) rfl oneU (by simp only [maxLen, List.length_append, List.length_cons, List.length_nil]; omega) (by simp only [List.length_append, List.length_cons, List.length_nil]; omega) (Nat.zero_le _) ?_)
    intro v2
    refine g_ownv v2 mE (fun A3 c3 hv3 _ _ _ => ?_)
    subst hv3
    rw [← e2]
    (repeat (refine gG ?_; try intro _))
    refine gk_again_sel rfl (k + 1, D2, A3, c3) ⟨hlt, hI2⟩ (by dsimp only; omega) (by repeat (first | exact trivial | refine ⟨rfl, ?_⟩)) sA sS
  obtain rfl : N = k := by omega
  (repeat' (first | (refine gG ?_; try intro _) | ((first | refine g_split rfl rfl tE (fun _ => ?_) (fun _ => ?_) | refine gk_cond rfl rfl tE (fun _ => ?_) (fun _ => ?_)) <;> (try first | (exfalso; omega; done) | (rename_i hx; exact absurd rfl hx) | (rename_i hx; cases hx; done)))))
  rename_i b11
  rw [hlT]
  refine g_mv rfl ?_; refine mv_call_rt (fun w hk => chunk_any bA B.length bc w) rfl rfl rfl rfl rfl (by kernel_rfl) (fun _ => rfl) (fun qq _ => ?_)
  obtain ⟨q1, q2⟩ := qq
  dsimp only
  refine g_share (φ := blk q1 [.slice bA B.length bc] 36) (by repeat (first | with_reducible exact Sel.here | with_reducible apply Sel.there)) ?_
  refine g_share (φ := blk q2 [.int .i64 116] 3) (by repeat (first | with_reducible exact Sel.here | with_reducible apply Sel.there)) ?_
  refine g_share (φ := blk b8 [.slice A N c] 63) (by repeat (first | with_reducible exact Sel.here | with_reducible apply Sel.there)) ?_
  refine g_share (φ := blk b5 [.pointer (some ⟨g, 0, none⟩), .int .i64 (lg : Nat)] 56) (by repeat (first | with_reducible exact Sel.here | with_reducible apply Sel.there)) ?_
  (repeat (refine gG ?_; try intro _))
  change GK _ _ _ (blk b11 [.int .i64 ((0 : Nat) : Int)] _ :: _) _
  refine gk_range (σ := Nat × Value × List WrD) (σx := Unit) (α := Nat) (enc := fun q : Nat => [.slice (shA bA (116 * q) B.length 1) (ckN B.length q) (ckN B.length q)]) (xs := List.range (chN B.length)) (RA := [blk q1 [.slice bA B.length bc] 36, blk q2 [.int .i64 116] 3]) (pl := [39]) (gf := 66) (caps := [.pointer (some ⟨q1, 0, none⟩), .pointer (some ⟨q2, 0, none⟩)]) (fun q s1 => s1.1 = q ∧ SvI S W.length B (s.S.take N) lg q s1.2.2) (fun s1 => [blk b11 [.int .i64 (s1.1 : Nat)] 3, dkF g ⟨sv, s1.2.1, S, s1.2.2⟩, own 0 60 1 (.slice A N c) (IE .u32) (s.S.take N)]) (fun _ _ => False) (fun _ _ => []) (0, lv, W) [alF pa n D1 (takeS s N)] rfl rfl (by kernel_rfl) rfl (fun _ => rfl) (fun w hk => chunk_iter bA B.length bc q1 q2 w hbc hbm h9 (.cons (hk.rR mE) (.cons (hk.rR mE) .nil))) sS ⟨rfl, hdk, Nat.le_refl _, fun j x hj => absurd hj (Nat.not_lt_zero _)⟩ sA (fun L q x s1 w hX hRc hI hOO hOut hOX hx hi hup => ?_) (fun D s1 hi => ?_) (fun D c y hy => hy.elim)
  ·
    --<body
    as_aux_lemma =>
      obtain ⟨X', l, D, rc, Inv', OO', Out', OX'⟩ := L
      dsimp only at hX hI hOO hOut hOX
      subst hX hI hOO hOut hOX
      have hqN : q < chN B.length := by have := (List.getElem?_eq_some_iff.1 hx).1; rwa [List.length_range] at this
      obtain rfl : q = x := by rw [List.getElem?_range hqN] at hx; exact Option.some.inj hx
      obtain ⟨k1, lv1, W1⟩ := s1
      obtain ⟨rfl, hV⟩ := hi
      dsimp only at hV hqN ⊢
      change GK _ _ _ [recF l (rc .ready none), dfr D, blk b11 [.int .i64 (k1 : Nat)] 3, dkF g ⟨sv, lv1, S, W1⟩, own 0 60 1 (.slice A N c) (IE .u32) (s.S.take N)] _
      (repeat (refine gG ?_; try intro _))
      refine gk_begin rfl (by repeat (first | with_reducible exact Sel.here | with_reducible apply Sel.there)) (hRc.st _ _) (fun bF hbF => ?_)
      have h116 := chN_lt.1 hqN
      obtain ⟨c1, c2, c3⟩ := ckN_pos h116
      have hck := ck_len (B := B) h116
      obtain ⟨y, hy⟩ : ∃ y, (s.S.take N)[k1]? = some y := ⟨(s.S.take N)[k1]'(by omega), List.getElem?_eq_getElem (by omega)⟩
      have hyb := hpos y (.inl (List.mem_of_mem_take (List.mem_of_getElem? hy)))
      obtain ⟨a, rfl⟩ := Int.eq_ofNat_of_zero_le (a := y) (by omega)
      refine gk_own0 (.slice A N c) (L := s.S.take N) mE (by omega) (fun gb c' hv _ _ => ?_)
      injection hv with hA _ _
      subst hA
      refine gk_sub (116 * k1) B.length (ckN B.length k1) (A := bA) (enc := IE .u8) (L := B) mE (Nat.le_refl _) ?_
      refine gk_own 0 5 1 (IE .u8) ?_
      refine gk_rowR (g := b8) mE ?_
      refine gk_rowR (g := b5) mE ?_
      obtain ⟨z, hz⟩ : ∃ z, z = nxt (s.S.take N) k1 := ⟨_, rfl⟩
      apply joinR (fun _ : Unit => 0 ≤ z ∧ z ≤ 4294967295) (fun _ => [(5, .pointer (some ⟨b5, 0, none⟩)), (8, .pointer (some ⟨b8, 0, none⟩)), (11, .pointer (some ⟨b11, 0, none⟩)), (12, .slice (shA bA (116 * k1) B.length 1) (ckN B.length k1) (ckN B.length k1)), (52, .int .u64 z)]) (fun _ => [bF, dfr D, own 0 5 1 (.slice none 0 0) (IE .u8) ([] : List Int), blk b11 [.int .i64 (k1 : Nat)] 3, dkF g ⟨sv, lv1, S, W1⟩, own 0 60 1 (.slice (some ⟨gb, 0, none⟩) N c) (IE .u32) (s.S.take N)]) (fun _ => [(sl (shA bA (116 * k1) B.length 1) 1 (IE .u8) ((B.drop (116 * k1)).take (ckN B.length k1))), row b8 0 [.slice (some ⟨gb, 0, none⟩) N c], row b5 0 [.pointer (some ⟨g, 0, none⟩), .int .i64 (lg : Nat)], blk b5 [.pointer (some ⟨g, 0, none⟩), .int .i64 (lg : Nat)] 56, blk b8 [.slice (some ⟨gb, 0, none⟩) N c] 63, blk q2 [.int .i64 116] 3, blk q1 [.slice bA B.length bc] 36, (sl bA 1 (IE .u8) B)])
      case r =>
        intro J
        by_cases hq1 : ¬ k1 + 1 < N
        · have hz0 : z = 0 := by rw [hz]; unfold nxt; rw [List.getElem?_eq_none (by omega)]; rfl
          (repeat' (first | (refine gG ?_; try intro _) | ((first | refine g_split rfl rfl tE (fun _ => ?_) (fun _ => ?_) | refine gk_cond rfl rfl tE (fun _ => ?_) (fun _ => ?_)) <;> (try first | (exfalso; omega; done) | (rename_i hx; exact absurd rfl hx) | (rename_i hx; cases hx; done)))))
          refine g_say 52 (.int .u64 z) rfl (by rw [hz0]) ?_
          have hJ := J.out () ⟨by omega, by omega⟩
          refine g_wk (by repeat (first | exact trivial | refine ⟨rfl, ?_⟩)) sA sS hJ
        · have hq1 := Decidable.not_not.1 hq1
          obtain ⟨y2, hy2⟩ : ∃ y, (s.S.take N)[k1 + 1]? = some y := ⟨(s.S.take N)[k1 + 1]'(by omega), List.getElem?_eq_getElem (by omega)⟩
          have hyb2 := hpos y2 (.inl (List.mem_of_mem_take (List.mem_of_getElem? hy2)))
          have hz0 : z = y2 := by rw [hz]; unfold nxt; rw [hy2]; rfl
          (repeat' (first | (refine gG ?_; try intro _) | ((first | refine g_split rfl rfl tE (fun _ => ?_) (fun _ => ?_) | refine gk_cond rfl rfl tE (fun _ => ?_) (fun _ => ?_)) <;> (try first | (exfalso; omega; done) | (rename_i hx; exact absurd rfl hx) | (rename_i hx; cases hx; done)))))
          refine g_yd rfl rfl ((ys_load_el (S := [own 0 60 1 (.slice (some ⟨gb, 0, none⟩) N c) (IE .u32) (s.S.take N)]) (o0 := 0) (sz := 1) (enc := IE .u32) (L := s.S.take N) hT (k1 + 1) y2 0 rfl rfl rfl (by first | rfl | (simp; omega)) hy2 (at_own mE) rfl rfl).ydS sF) ?_
          (repeat (refine gG ?_; try intro _))
          refine g_say 52 (.int .u64 z) rfl (by rw [hz0]) ?_
          have hJ := J.out () ⟨by omega, by omega⟩
          refine g_wk (by repeat (first | exact trivial | refine ⟨rfl, ?_⟩)) sA sS hJ
      case g =>
        rintro ⟨⟩ ⟨hz0, hz9⟩
        have hbod : [] ++ le z 4 ++ ((B.drop (116 * k1)).take (ckN B.length k1)) = (bodyC B (s.S.take N) k1) := by rw [hz]; rfl
        have hbl := body_len (l := s.S.take N) h116
        refine g_mv rfl ?_; refine mv_call_grow (fun w hk => Fix.put_any 0 (.slice none 0 0) [] z 4 4 w rfl (by omega) hz0 (hk.pO (own 0 5 1 (.slice none 0 0) (IE .u8) ([] : List Int)) mE) (by simp) (Nat.zero_le _)) rfl rfl rfl rfl rfl (by kernel_rfl) (by intro _; first | ((repeat (first | with_reducible exact Upd.here _ | with_reducible apply Upd.there)); done) | ((repeat (first | exact Upd.here _ | apply Upd.there)); done) | fail) (fun v1 => ?_)
        (repeat (refine gG ?_; try intro _))
        refine g_mv rfl (mv_append rfl ((B.drop (116 * k1)).take (ckN B.length k1)) rfl rfl rfl rfl elt_B (by intro _; first | ((repeat (first | with_reducible exact Upd.here _ | with_reducible apply Upd.there)); done) | ((repeat (first | exact Upd.here _ | apply Upd.there)); done) | fail) (src_R mE) hck.symm (by intro x j; rfl) (by simp only [maxLen, List.length_append, List.length_nil, le_length]; omega) (by simp only [List.length_append, List.length_nil, le_length]; omega) (Nat.zero_le _) (fun v4 => ?_))
        rw [hbod]
        refine g_freeze _ (by intro _; first | ((repeat (first | with_reducible exact Upd.here _ | with_reducible apply Upd.there)); done) | ((repeat (first | exact Upd.here _ | apply Upd.there)); done) | fail) (fun A2 c2 hA2 hA21 hA22 hA23 => ?_); subst hA2
        refine g_mv rfl ?_; refine mv_call_rt (fun w hk => pput_any 5 ⟨A2, ((bodyC B (s.S.take N) k1)).length, c2⟩ (bodyC B (s.S.take N) k1) w (by omega) (by omega) ⟨rfl, hA21, hA22, hA23⟩ (by omega) (hk.pO (sl A2 1 (IE .u8) (bodyC B (s.S.take N) k1)) mE) (body_isB hB)) rfl rfl rfl rfl rfl (by kernel_rfl) (fun _ => rfl) (fun u hu => ?_)
        obtain ⟨uA, un, uc⟩ := u
        obtain ⟨u1, u2, u3, u4⟩ := hu
        dsimp only at u1 u2 u3 u4 ⊢
        refine g_share (φ := sl uA 1 (IE .u8) (Page.page 5 (bodyC B (s.S.take N) k1))) (by repeat (first | with_reducible exact Sel.here | with_reducible apply Sel.there)) ?_
        (repeat (refine gG ?_; try intro _))
        have hpl : ((Page.page 5 (bodyC B (s.S.take N) k1))).length = 128 := Page.page_length (by omega)
        have hpo : SecOk (Page.page 5 (bodyC B (s.S.take N) k1)) := ⟨hpl, Page.page_isB (by omega) (by omega) (body_isB hB)⟩
        refine gk_sel (f' := [(5, .pointer (some ⟨b5, 0, none⟩)), (8, .pointer (some ⟨b8, 0, none⟩)), (11, .pointer (some ⟨b11, 0, none⟩)), (14, .slice uA un uc)]) (O' := [bF, dfr D, blk b11 [.int .i64 (k1 : Nat)] 3, dkF g ⟨sv, lv1, S, W1⟩, own 0 60 1 (.slice (some ⟨gb, 0, none⟩) N c) (IE .u32) (s.S.take N)]) (R' := [(sl uA 1 (IE .u8) (Page.page 5 (bodyC B (s.S.take N) k1))), row b8 0 [.slice (some ⟨gb, 0, none⟩) N c], row b5 0 [.pointer (some ⟨g, 0, none⟩), .int .i64 (lg : Nat)], blk b5 [.pointer (some ⟨g, 0, none⟩), .int .i64 (lg : Nat)] 56, blk b8 [.slice (some ⟨gb, 0, none⟩) N c] 63, blk q2 [.int .i64 116] 3, blk q1 [.slice bA B.length bc] 36, (sl bA 1 (IE .u8) B)]) (by repeat (first | exact trivial | refine ⟨rfl, ?_⟩)) sA sS ?_
        refine gk_anyX LX.noOut [2, 4, 5, 6, 7, 8, 9, 10] (Cut _ (fun q : {q : Value × SecD // q.2.Ok ∧ q.2.L = (Page.page 5 (bodyC B (s.S.take N) k1))} => [(5, .pointer (some ⟨b5, 0, none⟩)), (8, .pointer (some ⟨b8, 0, none⟩)), (11, .pointer (some ⟨b11, 0, none⟩))]) (fun q => [bF, dfr D, blk b11 [.int .i64 (k1 : Nat)] 3, dkF g ⟨sv, q.1.1, S, W1 ++ [(⟨a + lg + 1, q.1.2⟩ : WrD)]⟩, own 0 60 1 (.slice (some ⟨gb, 0, none⟩) N c) (IE .u32) (s.S.take N)]) (fun _ => [blk b5 [.pointer (some ⟨g, 0, none⟩), .int .i64 (lg : Nat)] 56, blk b8 [.slice (some ⟨gb, 0, none⟩) N c] 63, blk q2 [.int .i64 116] 3, blk q1 [.slice bA B.length bc] 36, (sl bA 1 (IE .u8) B)])) rfl rfl (by decide) (by kernel_rfl) ?_ (cut_k fun q => ?_)
        · skip
          refine gb_take 0 rfl (by decide +kernel) rfl rfl (by first | exact ys_blk hT rfl rfl mE rfl rfl | exact ys_row hT rfl rfl mE rfl rfl | exact ys_row0 hT rfl rfl mE rfl rfl) sF ?_
          refine gb_take 1 rfl (by decide +kernel) rfl rfl (by first | exact ys_blk hT rfl rfl mE rfl rfl | exact ys_row hT rfl rfl mE rfl rfl | exact ys_row0 hT rfl rfl mE rfl rfl) sF ?_
          refine gb_take 2 rfl (by decide +kernel) rfl rfl (by first | exact ys_blk hT rfl rfl mE rfl rfl | exact ys_row hT rfl rfl mE rfl rfl | exact ys_row0 hT rfl rfl mE rfl rfl) sF ?_
          refine gb_take 3 rfl (by decide +kernel) rfl rfl (ys_ev (nw := true) hT rfl sI) sF ?_
          refine gb_take 4 rfl (by decide +kernel) rfl rfl (ys_load_el (o0 := 0) (sz := 1) (enc := IE .u32) (L := s.S.take N) hT k1 _ 0 rfl rfl rfl (by first | rfl | omega) hy (at_own mE) rfl rfl) sF ?_
          refine gb_take 5 rfl (by decide +kernel) rfl rfl (ys_ev (nw := true) hT rfl sI) sF ?_
          refine gb_only 6 (by decide +kernel) rfl rfl ?_
          refine mv_call_mod (φ := dkF g ⟨sv, lv1, S, W1⟩) (ψ := fun q : Value × SecD => dkF g ⟨sv, q.1, S, W1 ++ [(⟨a + lg + 1, q.2⟩ : WrD)]⟩) (fun w1 hk => by exact pwrite_any g lg sv lv1 S W1 a uA un uc (Page.page 5 (bodyC B (s.S.take N) k1)) w1 hV.d (by have := hV.n; omega) (by omega) (by omega) (by omega) (by omega) u1 hpo (hk.rO (φ := dkF g ⟨sv, lv1, S, W1⟩) mE) (hk.rR (φ := (sl uA 1 (IE .u8) (Page.page 5 (bodyC B (s.S.take N) k1)))) mE) (fun b hb => hk.disR (dkF g ⟨sv, lv1, S, W1⟩) mE (sl uA 1 (IE .u8) (Page.page 5 (bodyC B (s.S.take N) k1))) mE b hb)) rfl rfl rfl rfl rfl (by kernel_rfl) (by intro _; first | ((repeat (first | with_reducible exact Upd.here _ | with_reducible apply Upd.there)); done) | ((repeat (first | exact Upd.here _ | apply Upd.there)); done) | fail) (fun q hq => ?_)
          refine ⟨sF, ?_⟩
          refine gb_nil (by decide +kernel) ?_
          exact ⟨⟨q, hq⟩, (by repeat (first | exact trivial | refine ⟨rfl, ?_⟩)), sA, sS⟩
        obtain ⟨⟨qv, qd⟩, hq1, hq2⟩ := q
        dsimp only at hq1 hq2 ⊢
        (repeat (refine gG ?_; try intro _))
        rw [show ((k1 : Nat) : Int) + 1 = ((k1 + 1 : Nat) : Int) from rfl]
        refine gk_round hRc (k1 + 1, qv, W1 ++ [(⟨a + lg + 1, qd⟩ : WrD)]) rfl ⟨rfl, hV.step hnd hy (by omega) hq1 hq2⟩ [blk b11 [.int .i64 ((k1 + 1 : Nat) : Int)] 3, dkF g ⟨sv, qv, S, W1 ++ [(⟨a + lg + 1, qd⟩ : WrD)]⟩, own 0 60 1 (.slice (some ⟨gb, 0, none⟩) N c) (IE .u32) (s.S.take N)] rfl hbF sA
    -->body
  · obtain ⟨k1, lv1, W1⟩ := s1
    obtain ⟨_, hV⟩ := hi
    rw [List.length_range, ← hNe] at hV
    dsimp only at hV ⊢
    change GK _ _ _ [dfr D, blk b11 [.int .i64 (k1 : Nat)] 3, dkF g ⟨sv, lv1, S, W1⟩, own 0 60 1 (.slice A N c) (IE .u32) (s.S.take N), alF pa n D1 (takeS s N)] _
    refine gk_rowR (g := b8) mE ?_
    (repeat (refine gG ?_; try intro _))
    refine gk_freeze (.slice A N c) (by intro _; first | ((repeat (first | with_reducible exact Upd.here _ | with_reducible apply Upd.there)); done) | ((repeat (first | exact Upd.here _ | apply Upd.there)); done) | fail) (fun LA c' e e1 e2 e3 => ?_)
    rw [hlT] at e e1
    injection e with eA _ ec
    subst eA
    subst ec
    refine gk_retM hT (.cons (by repeat (first | with_reducible exact Sel.here | with_reducible apply Sel.there)) .nil) rfl rfl (.tmp rfl (.tmp rfl .nil)) (fun w' hk => ?_)
    exact RetM.mkP (ll := fun q : SvR => [alF pa n q.D (takeS s N), dkF g ⟨sv, q.lv, S, q.W⟩, sl q.A 1 (IE .u32) (s.S.take N)]) (⟨D1, lv1, W1, A, c⟩ : SvR) ⟨hI1, hV, ⟨rfl, e1, e2, e3⟩⟩ rfl hk (fun b hb => (finE_mem h.2 b).1 hb) sA
end Go.Proofs.Yteajefmnbalofaa.Ch

