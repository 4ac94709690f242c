/- key.Read; node.Get. The bytes of a node are read as what it was. -/
import Derived.Test.YtaghmffgoomebaaGreatNd3
import Derived.Test.YtaghmffgoomebaaGreatRd
import Derived.Test.YtaghmffgoomebaaGreatPage7
import Derived.Test.YtaghmffgoomebaaGreatNd9
set_option linter.unusedVariables false
set_option linter.unusedSimpArgs false
namespace Go.Proofs.YtaghmffgoomebaaGreat.Nd
open Go.RowKit Mem Gx Rd Bytes
set_option maxRecDepth 100000
set_option maxHeartbeats 4000000
def keyAt (B : List Int) (o : Nat) : KeyD := ⟨num ((B.drop o).take 2), num ((B.drop (o + 2)).take 4), num ((B.drop (o + 2 + 4)).take 8)⟩
def entAt (B : List Int) (o : Nat) : EntD := ⟨keyAt B o, num ((B.drop (o + 14)).take 4)⟩
def decN (B : List Int) (j : Nat) : List EntD := (List.range j).map (fun i => entAt B (1 + 18 * i))
theorem zjw (B : List Int) (j : Nat) : (decN B j).length = j := by simp [decN]
theorem zmr (B : List Int) (j : Nat) : decN B (j + 1) = decN B j ++ [entAt B (1 + 18 * j)] := by
 unfold decN; rw [List.range_succ, List.map_append]; rfl
structure KRS where
 q : SlV
 M : List Int
 bad : Bool
 k : KeyD
structure PK (L : List Int) (s : SlV) (M : List Int) (o : Nat) (r : KRS) : Prop where
 nx : Nx s M r.M r.q
 pos : Pos L (o + 14) r.M r.bad
 bd : r.k.Bd
 val : o + 14 ≤ L.length → r.k = keyAt L o
theorem zpA (L M : List Int) (g o : Nat) (s : SlV) (bad : Bool) (w : World) (h9 : L.length ≤ 100000) (hp : Pos L o M bad) (h : In w g s M bad) : Calls Tryz.prog 81 [.pointer (some ⟨g, 0, none⟩)].toArray w
 (RetW g 201 [sl s.A 1 (IE .u8) M] (PK L s M o) (fun r => r.k.val) (fun r => [r.q.v, .bool r.bad]) (fun _ => []) (fun r => [sl r.q.A 1 (IE .u8) r.M]) w) := by
 refine zab T [g] [blk g [s.v, .bool bad] 201] [sl s.A 1 (IE .u8) M] Tryz.func81 rfl Tryz.ntmps81 rfl h.kn ?_
 (repeat (refine gG ?_; try intro _))
 refine g_mv rfl ?_; refine zaE (fun w hk => u16_p L M g o s bad w h9 hp (zdg hk h.ok mE mE)) rfl rfl rfl rfl rfl kR uD (fun ψ hψ => by first | (cases hψ; done) | (obtain rfl := m1 hψ; exact mE)) (fun _ => rfl) (fun _ => rfl) (fun r1 h1 => ?_)
 have x1 := h1.x
 (repeat (refine gG ?_; try intro _))
 refine g_mv rfl ?_; refine zaE (fun w hk => u32_p L r1.M g (o + 2) r1.q r1.bad w h9 h1.pos (zdg hk h1.nx.ok mE mE)) rfl rfl rfl rfl rfl kR uD (fun ψ hψ => by first | (cases hψ; done) | (obtain rfl := m1 hψ; exact mE)) (fun _ => rfl) (fun _ => rfl) (fun r2 h2 => ?_)
 (repeat (refine gG ?_; try intro _))
 refine g_mv rfl ?_; refine zaE (fun w hk => u64_p L r2.M g (o + 2 + 4) r2.q r2.bad w h9 h2.pos (zdg hk h2.nx.ok mE mE)) rfl rfl rfl rfl rfl kR uD (fun ψ hψ => by first | (cases hψ; done) | (obtain rfl := m1 hψ; exact mE)) (fun _ => rfl) (fun _ => rfl) (fun r3 h3 => ?_)
 (repeat (refine gG ?_; try intro _))
 refine zad hT rfl rfl (.cell rfl mE rfl rfl .nil) (fun w' hk => ?_)
 refine RetW.mk ⟨r3.q, r3.M, r3.bad, ⟨r1.x, r2.x, r3.x⟩⟩ ⟨⟨h3.nx.ok, fun b hb => h1.nx.S b (h2.nx.S b (h3.nx.S b hb))⟩, h3.pos, ⟨x1, h2.x, h3.x⟩, fun hl => ?_⟩ rfl hk sA (fun φ hφ => ?_)
 ·unfold keyAt
  rw [← h1.val (by omega), ← h2.val (by omega), ← h3.val (by omega)]
 ·obtain rfl := m1 hφ
  exact ⟨mE, fun b hb => ⟨_, .head _, h1.nx.S b (h2.nx.S b (h3.nx.S b hb))⟩⟩
theorem zjR {P : Program} {fid : FuncId} {args : Array Value} {w : World} {r : Int × List Int × Int} {k c : Int} {B : List Int} (hr : r = (k, B, c)) (h : Calls P fid args w fun e w' => Page.GetRes w w' e r) :
 Calls P fid args w (Ret (fun s : SlV => s.Ok B.length) (fun s => .tuple #[.int .i64 k, s.v, .int .i64 c]) (fun s => [sl s.A 1 (IE .u8) B]) w) := by
 subst hr
 refine h.mono fun e w' ⟨A, n, c, h1, h2, h3, h4, h5, h6, h7⟩ => ?_
 refine ⟨⟨A, n, c⟩, ⟨h1, h4, h7.2, h5⟩, h2, ⟨h6, fun φ hφ => ?_, List.pairwise_singleton _ _⟩⟩
 obtain rfl := m1 hφ
 refine ⟨h3, fun b hb => ?_⟩
 obtain ⟨hn, a, ha, hab⟩ := hb
 rw [← hab]
 refine ⟨h7.1 a ha, ?_⟩
 obtain ⟨b', off, e1, hc⟩ := h3 hn
 have e1 : A = some ⟨b', off, none⟩ := e1
 have ha : A = some a := ha
 rw [e1] at ha
 injection ha with ha
 rw [← ha]
 exact lt_of_cell (hc 0 hn 0 (by decide))
def badP (k : Int) (M : List EntD) (i : Nat) : Prop := (0 < i ∧ ¬ klt (M.getD (i - 1) default).k (M.getD i default).k) ∨ (k = 4 ∧ (M.getD i default).a = 0)
def manyB (B : List Int) : Int := num (B.take 1)
def nB (B : List Int) : Nat := min (manyB B).toNat 6
noncomputable def ncodeG (k : Int) (B : List Int) (e : Int) : Int :=
 if e ≠ 0 then e else if k ≠ 3 ∧ k ≠ 4 then 21 else if B.length < 1 + 18 * nB B then 20
 else if 1 + 18 * nB B < B.length ∨ manyB B = 0 ∨ 6 < manyB B ∨ tB (∃ i, i < nB B ∧ badP k (decN B (nB B)) i) = true then 21 else 0
noncomputable def ncode (L : List Int) : Int := ncodeG (Page.getS L).1 (Page.getS L).2.1 (Page.getS L).2.2
theorem ziY {L B : List Int} {k e : Int} (h : Page.getS L = (k, B, e)) : ncode L = ncodeG k B e := by unfold ncode; rw [h]
theorem nc_err {k e : Int} {B : List Int} (h : e ≠ 0) : ncodeG k B e = e := by unfold ncodeG; rw [if_pos h]
theorem zpq {k : Int} {B : List Int} (h : ¬ (k = 3 ∨ k = 4)) : ncodeG k B 0 = 21 := by unfold ncodeG; rw [if_neg (by simp), if_pos (by omega)]
theorem znw {k : Int} {B : List Int} (h : k = 3 ∨ k = 4) (hl : B.length < 1 + 18 * nB B) : ncodeG k B 0 = 20 := by unfold ncodeG; rw [if_neg (by simp), if_neg (by omega), if_pos hl]
theorem zlh {k : Int} {B : List Int} (h : k = 3 ∨ k = 4) (hl : ¬ B.length < 1 + 18 * nB B) : ncodeG k B 0 = if 1 + 18 * nB B < B.length ∨ manyB B = 0 ∨ 6 < manyB B ∨ tB (∃ i, i < nB B ∧ badP k (decN B (nB B)) i) = true then 21 else 0 := by
 unfold ncodeG; rw [if_neg (by simp), if_neg (by omega), if_neg hl]
structure ES where
 s : SlV
 M : List EntD
structure NGetI (L : List Int) (r : ES × Bool × Int) : Prop where
 ok : r.1.s.Ok r.1.M.length
 code : r.2.2 = ncode L
 M : r.1.M = if ncode L = 0 then decN (Page.getS L).2.1 (nB (Page.getS L).2.1) else []
 leaf : r.2.1 = if ncode L = 0 then tB ((Page.getS L).1 = 3) else false
theorem zjZ {L : List Int} {c : Int} (h : c = ncode L) (h0 : c ≠ 0) : NGetI L (⟨⟨none, 0, 0⟩, []⟩, false, c) :=
 ⟨SlV.zdx, h, by rw [← h, if_neg h0], by rw [← h, if_neg h0]⟩
theorem zpO {L : List Int} (hB : IsB L) : IsB (Page.getS L).2.1 ∧ (Page.getS L).2.1.length ≤ 120 := by
 unfold Page.getS
 by_cases h1 : L.length ≠ 128
 ·rw [if_pos h1]; exact ⟨IsB.nil, by simp⟩
 rw [if_neg h1]
 by_cases h2 : ¬ (1 ≤ L.getD 2 0 ∧ L.getD 2 0 ≤ 6) ∨ 120 < L.getD 3 0
 ·rw [if_pos h2]; exact ⟨IsB.nil, by simp⟩
 rw [if_neg h2]
 split
 ·exact ⟨IsB.nil, by simp⟩
 ·split
  ·exact ⟨IsB.nil, by simp⟩
  ·refine ⟨Page.zoj hB, ?_⟩
   show (Page.body L (L.getD 3 0).toNat).length ≤ 120
   unfold Page.body
   rw [List.length_take]; omega
theorem zgD {P : Program} {fid : FuncId} {args : Array Value} {w : World} {k : IntKind} {a b : Int} (e0 : a = b) (h : Calls P fid args w fun e w' => e = .returned (.int k a) ∧ Below w.heap.size w w') : Calls P fid args w fun e w' => e = .returned (.int k b) ∧ Below w.heap.size w w' := e0 ▸ h
theorem zdm {P : Program} {fid : FuncId} {args : Array Value} {w : World} {a b : Bool} (e0 : a = b) (h : Calls P fid args w fun e w' => e = .returned (.bool a) ∧ Below w.heap.size w w') : Calls P fid args w fun e w' => e = .returned (.bool b) ∧ Below w.heap.size w w' := e0 ▸ h
theorem ziX (A : Option Addr) (n0 c0 : Nat) (L : List Int) (w : World) (hs0 : (SlV.mk A n0 c0).Ok L.length) (hL : Sl w A 1 (IE .u8) L) (hB : IsB L) :
 Calls Tryz.prog 51 [.slice A n0 c0].toArray w (Ret (NGetI L) (fun r => .tuple #[r.1.s.v, .bool r.2.1, .int .i64 r.2.2]) (fun r => [sl r.1.s.A 4 EE r.1.M]) w) := by
 obtain ⟨hBd, hBl⟩ := zpO hB
 obtain ⟨kd, B, ec, hgs⟩ : ∃ kd B ec, Page.getS L = (kd, B, ec) := ⟨_, _, _, rfl⟩
 have hc := ziY hgs
 rw [hgs] at hBd hBl
 dsimp only at hBd hBl
 refine zab T [] [] [sl A 1 (IE .u8) L] Tryz.func51 rfl Tryz.ntmps51 rfl ((Kn.start w).argR hL (by decide) (fun _ h => by cases h)) ?_
 (repeat (refine gG ?_; try intro _))
 refine cR (fun w hk => zjR hgs (Page.znT A n0 c0 L w hs0.n hs0.c (hk.pR (sl A 1 (IE .u8) L) mE) hB)) (fun b hb => ?_)
 by_cases he : ec = 0
 ·subst he
  by_cases hk34 : kd = 3 ∨ kd = 4
  ·have h99 : B.length ≤ 100000 := by omega
   refine join1 (p := ?G) (fun J => ?r) ?g
   case r =>
    (repeat' (first | (refine gH ?_; try intro _) | (refine gS ?_ ?_ <;> intro _) | fail))
    all_goals (refine zbw (φ := sl b.A 1 (IE .u8) B) (by repeat (first | exact Sel.here | apply Sel.there)) ?_)
    all_goals (refine g_wk (f' := [(5, .int .i64 kd), (29, b.v)]) (O' := []) (R' := [sl b.A 1 (IE .u8) B]) fS sA sS ?_)
    all_goals exact J.out
   case g =>
    change G _ _ _ _ _ _ _
    refine cR (fun w hk => new_rd b w) (fun gr _ => ?_)
    (repeat (refine gG ?_; try intro _))
    refine g_mv rfl ?_; refine zaE (fun w hk => u8_p B B gr 0 b false w h99 (zkW hBd) (zdg hk hb mE mE)) rfl rfl rfl rfl rfl kR uD (fun ψ hψ => by first | (cases hψ; done) | (obtain rfl := m1 hψ; exact mE)) (fun _ => rfl) (fun _ => rfl) (fun r1 h1 => ?_)
    obtain ⟨m, hm⟩ := Int.eq_ofNat_of_zero_le h1.x.1
    have hm9 := h1.x.2
    obtain ⟨n, hn⟩ : ∃ n, n = min m 6 := ⟨_, rfl⟩
    have hnm : n ≤ m ∧ n ≤ 6 ∧ (n = m ∨ n = 6) := by omega
    (repeat (refine gG ?_; try intro _))
    refine g_yd rfl rfl (Ys.yd (zgJ (n : Int) rfl rfl rfl (by rw [hm]; split <;> omega))) ?_
    (repeat (refine gG ?_; try intro _))
    refine zbO 0 31 4 EE ?_
    refine zap (fun (q : Nat × SlV × (List Int) × Bool × Value × (List EntD)) => match q with | (j, q, M, bd, V, W) => j ≤ n ∧ q.Ok M.length ∧ Pos B (1 + 18 * j) M bd ∧ W.length = j ∧ (1 + 18 * j ≤ B.length → W = decN B j)) (fun (q : Nat × SlV × (List Int) × Bool × Value × (List EntD)) => match q with | (j, q, M, bd, V, W) => [(5, .int .i64 kd), (8, .pointer (some ⟨gr, 0, none⟩)), (9, .int .i64 r1.x), (10, V), (34, .int .i64 n), (35, .int .i64 j)]) (fun (q : Nat × SlV × (List Int) × Bool × Value × (List EntD)) => match q with | (j, q, M, bd, V, W) => [own 0 31 4 V EE W, blk gr [q.v, .bool bd] 201]) (fun (q : Nat × SlV × (List Int) × Bool × Value × (List EntD)) => match q with | (j, q, M, bd, V, W) => [sl q.A 1 (IE .u8) M]) (fun (q : Nat × SlV × (List Int) × Bool × Value × (List EntD)) => match q with | (j, q, M, bd, V, W) => n - j) (0, r1.q, r1.M, r1.bad, .slice none 0 0, []) rfl ⟨Nat.zero_le _, h1.nx.ok, h1.pos, rfl, fun _ => rfl⟩ fS sA sS ?_
    rintro ⟨j, q, M, bd, V, W⟩ hI
    replace hI : j ≤ n ∧ q.Ok M.length ∧ Pos B (1 + 18 * j) M bd ∧ W.length = j ∧ (1 + 18 * j ≤ B.length → W = decN B j) := hI
    change GK _ _ [(5, .int .i64 kd), (8, .pointer (some ⟨gr, 0, none⟩)), (9, .int .i64 r1.x), (10, V), (34, .int .i64 n), (35, .int .i64 j)] [own 0 31 4 V EE W, blk gr [q.v, .bool bd] 201] [sl q.A 1 (IE .u8) M]
    obtain ⟨hj, hq, hpos, hW, hWv⟩ := hI
    (repeat (refine gG ?_; try intro _))
    refine zaJ rfl rfl (zaH _) (fun hlt => ?_) (fun hlt => ?_)
    ·(repeat (refine gG ?_; try intro _))
     refine g_mv rfl ?_; refine zaE (fun w hk => zpA B M gr (1 + 18 * j) q bd w h99 hpos (zdg hk hq mE mE)) rfl rfl rfl rfl rfl kR uD (fun ψ hψ => by first | (cases hψ; done) | (obtain rfl := m1 hψ; exact mE)) (fun _ => rfl) (fun _ => rfl) (fun r2 h2 => ?_)
     (repeat (refine gG ?_; try intro _))
     refine g_mv rfl ?_; refine zaE (fun w hk => u32_p B r2.M gr (1 + 18 * j + 14) r2.q r2.bad w h99 h2.pos (zdg hk h2.nx.ok mE mE)) rfl rfl rfl rfl rfl kR uD (fun ψ hψ => by first | (cases hψ; done) | (obtain rfl := m1 hψ; exact mE)) (fun _ => rfl) (fun _ => rfl) (fun r3 h3 => ?_)
     (repeat (refine gG ?_; try intro _))
     refine g_mv rfl (zac rfl [EntD.mk r2.k r3.x] rfl rfl rfl rfl zb7 uD (zah mE rfl) rfl (by intro x j; rcases j with _ | _ | _ | j <;> rfl) sM sN (Nat.zero_le _) (fun V' => ?_))
     (repeat (refine gG ?_; try intro _))
     have hsum : 1 + 18 * (j + 1) = 1 + 18 * j + 14 + 4 := by omega
     refine zag rfl (j + 1, r3.q, r3.M, r3.bad, V', W ++ [EntD.mk r2.k r3.x]) ⟨by omega, h3.nx.ok, by rw [hsum]; exact h3.pos, by rw [List.length_append, hW]; rfl, fun hl => by rw [zmr, hWv (by omega), h2.val (by omega), h3.val (by omega)]; rfl⟩ (by dsimp only; omega) fS sA sS
    ·have hjn : j = n := by omega
     subst hjn
     have hmany : 1 ≤ B.length → manyB B = m ∧ nB B = j := fun hl => by
      have e1 : manyB B = m := by
       unfold manyB; rw [← hm, h1.val (by omega)]; rfl
      refine ⟨e1, ?_⟩
      unfold nB; rw [e1]; omega
     by_cases hsh : B.length < 1 + 18 * j
     ·have hcode : ncode L = 20 := by
       rw [hc]
       refine znw hk34 ?_
       by_cases h0 : 1 ≤ B.length
       ·rw [(hmany h0).2]; exact hsh
       ·omega
      (repeat' (first | (refine gH ?_; try intro _) | (refine g_mv rfl ?_; refine cb (fun w hk => zgD (if_pos hsh) (zn2 B M gr (1 + 18 * j) q bd w h99 hpos (zdg hk hq mE mE))) ?_) | (refine gS ?_ ?_ <;> intro _) | fail))
      refine zba none 4 EE ?_
      refine zad hT rfl rfl (.tmp rfl (.tmp rfl (.tmp rfl .nil))) (fun w' hk => ?_)
      exact Ret.mk (⟨⟨none, 0, 0⟩, []⟩, false, 20) (zjZ hcode.symm (by decide)) rfl hk sA
     ·obtain ⟨em, enb⟩ := hmany (by omega)
      have hc2 := zlh hk34 (B := B) (by rw [enb]; exact hsh)
      rw [← hc, em, enb] at hc2
      by_cases hbig : 1 + 18 * j < B.length
      ·have hcode : ncode L = 21 := by rw [hc2, if_pos (.inl hbig)]
       (repeat' (first | (refine gH ?_; try intro _) | (refine g_mv rfl ?_; refine cb (fun w hk => zgD (by rw [if_neg hsh, if_pos hbig]) (zn2 B M gr (1 + 18 * j) q bd w h99 hpos (zdg hk hq mE mE))) ?_) | (refine gS ?_ ?_ <;> intro _) | fail))
       refine zba none 4 EE ?_
       refine zad hT rfl rfl (.tmp rfl (.tmp rfl (.tmp rfl .nil))) (fun w' hk => ?_)
       exact Ret.mk (⟨⟨none, 0, 0⟩, []⟩, false, 21) (zjZ hcode.symm (by decide)) rfl hk sA
      ·by_cases hmm : m = 0 ∨ 6 < m
       ·have hcode : ncode L = 21 := by rw [hc2, if_pos (by omega)]
        (repeat' (first | (refine gH ?_; try intro _) | (refine g_mv rfl ?_; refine cb (fun w hk => zgD (by rw [if_neg hsh, if_neg hbig]) (zn2 B M gr (1 + 18 * j) q bd w h99 hpos (zdg hk hq mE mE))) ?_) | (refine gS ?_ ?_ <;> intro _) | fail))
        all_goals
         refine zba none 4 EE ?_
         refine zad hT rfl rfl (.tmp rfl (.tmp rfl (.tmp rfl .nil))) (fun w' hk => ?_)
         exact Ret.mk (⟨⟨none, 0, 0⟩, []⟩, false, 21) (zjZ hcode.symm (by decide)) rfl hk sA
       ·have hWe := hWv (by omega)
        (repeat' (first | (refine gH ?_; try intro _) | (refine g_mv rfl ?_; refine cb (fun w hk => zgD (by rw [if_neg hsh, if_neg hbig]) (zn2 B M gr (1 + 18 * j) q bd w h99 hpos (zdg hk hq mE mE))) ?_) | (refine gS ?_ ?_ <;> intro _) | fail))
        refine g_ownp V mE (by omega) (fun b3 o3 c3 hV hc31 hc32 => ?_)
        subst hV
        (repeat (refine gG ?_; try intro _))
        refine zap (fun (i : Nat) => i ≤ W.length ∧ ∀ i', i' < i → ¬ badP kd W i') (fun i => [(5, .int .i64 kd), (10, .slice (some ⟨b3, o3, none⟩) W.length c3), (57, .slice (some ⟨b3, o3, none⟩) W.length c3), (58, .int .i64 W.length), (59, .int .i64 i)]) (fun i => [own 0 31 4 (.slice (some ⟨b3, o3, none⟩) W.length c3) EE W]) (fun i => []) (fun i => W.length - i) 0 rfl ⟨Nat.zero_le _, fun i' h => absurd h (Nat.not_lt_zero _)⟩ fS sA sS ?_
        rintro i hI
        obtain ⟨hi, hno⟩ := hI
        have hWb : W.length ≤ 6 := by omega
        (repeat (refine gG ?_; try intro _))
        refine zaJ rfl rfl (zaH _) (fun hil => ?_) (fun hil => ?_)
        ·have hiW : i < W.length := by omega
         obtain ⟨y, hy⟩ : ∃ y, W[i]? = some y := ⟨W[i], List.getElem?_eq_getElem hiW⟩
         obtain ⟨x, hx⟩ : ∃ x, W[i - 1]? = some x := ⟨W[i - 1], List.getElem?_eq_getElem (by omega)⟩
         have hbad : badP kd W i ↔ (0 < i ∧ ¬ klt x.k y.k) ∨ (kd = 4 ∧ y.a = 0) := by
          unfold badP
          rw [List.getD_eq_getElem?_getD, List.getD_eq_getElem?_getD, hy, hx]
          rfl
         (repeat (refine gG ?_; try intro _))
         refine g_yd rfl rfl (Ys.ydS (S := [own 0 31 4 (.slice (some ⟨b3, o3, none⟩) W.length c3) EE W]) (zaG hT i y 0 rfl rfl rfl rfl hy (zb6 mE) rfl rfl) sF) ?_
         (repeat (refine gG ?_; try intro _))
         rename_i g13
         obtain ⟨b1, k1⟩ : ∃ v, tB (0 < (i : Int)) = v := ⟨_, rfl⟩
         obtain ⟨b2, k2⟩ : ∃ v, tB (klt x.k y.k) = v := ⟨_, rfl⟩
         obtain ⟨b4, k4⟩ : ∃ v, tB (kd = 4) = v := ⟨_, rfl⟩
         obtain ⟨b5, k5⟩ : ∃ v, tB (y.a = 0) = v := ⟨_, rfl⟩
         obtain ⟨bb, hbb⟩ : ∃ v, v = ((b1 && !b2) || (b4 && b5)) := ⟨_, rfl⟩
         have hbt : bb = true ↔ badP kd W i := by
          rw [hbad, hbb, ← k1, ← k2, ← k4, ← k5]
          rw [show tB (0 < (i : Int)) = tB (0 < i) from zbU (by omega)]
          by_cases q1 : 0 < i <;> by_cases q2 : klt x.k y.k <;> by_cases q4 : kd = 4 <;> by_cases q5 : y.a = 0 <;> simp [zed, q1, q2, q4, q5]
         refine zas [0, 1] (Cut _ (fun _ : Unit => [(5, .int .i64 kd), (10, .slice (some ⟨b3, o3, none⟩) W.length c3), (57, .slice (some ⟨b3, o3, none⟩) W.length c3), (58, .int .i64 W.length), (59, .int .i64 i), (86, .bool bb)]) (fun _ => [own 0 31 4 (.slice (some ⟨b3, o3, none⟩) W.length c3) EE W]) (fun _ => [])) rfl rfl kR ?_ (zaD fun _ => ?_)
         ·clear hbt hbad
          rcases (show (b1 = true ∧ b2 = false) ∨ (b1 = false ∧ b4 = false) ∨ (b1 = false ∧ b4 = true) ∨ (b1 = true ∧ b2 = true ∧ b4 = false) ∨ (b1 = true ∧ b2 = true ∧ b4 = true) by cases b1 <;> cases b2 <;> cases b4 <;> simp) with ⟨e1, e2⟩ | ⟨e1, e4⟩ | ⟨e1, e4⟩ | ⟨e1, e2, e4⟩ | ⟨e1, e2, e4⟩
          all_goals (try rw [e1] at k1 hbb)
          all_goals (try rw [e2] at k2 hbb)
          all_goals (try rw [e4] at k4 hbb)
          all_goals (simp only [Bool.true_or, Bool.or_true, Bool.false_or, Bool.or_false, Bool.not_true, Bool.not_false, Bool.true_and, Bool.and_true, Bool.false_and, Bool.and_false] at hbb)
          all_goals (subst hbb)
          all_goals (try have hi0 : 0 < i := (by have := zaQ.1 k1; omega))
          all_goals
           refine gY hT 0 ?_
           refine gY hT 1 ?_
           try (refine zam 65 _ rfl (congrArg Value.bool k1) ?_)
           refine gY hT 2 ?_
           first | refine gY hT 3 ?_ | refine gZ 3 ?_
           first | refine gY hT 4 ?_ | refine gZ 4 ?_
           first | refine gY hT 5 ?_ | refine gZ 5 ?_
           first | refine gY hT 6 ?_ | refine gZ 6 ?_
           first | refine gY hT 7 ?_ | refine gZ 7 ?_
           first | refine zaz 8 rfl dK rfl rfl (zaG (o0 := o3) (sz := 4) (enc := EE) (L := W) hT (i - 1) x 0 rfl rfl rfl (by omega) hx (zb6 mE) rfl rfl) sF ?_ | refine gZ 8 ?_
           first | refine gY hT 9 ?_ | refine gZ 9 ?_
           first | refine gW hT 10 ?_ | refine gZ 10 ?_
           first | refine gZ 11 ?_ | (refine gP 11 ?_; (refine zau (fun w hk => zdm k2 (zb4 x.k y.k w)) rfl rfl rfl rfl rfl kR ?_); refine ⟨sF, ?_⟩)
           first | refine gY hT 12 ?_ | refine gZ 12 ?_
           refine gY hT 13 ?_
           refine gY hT 14 ?_
           first | refine gY hT 15 ?_ | refine gZ 15 ?_
           first | refine gY hT 16 ?_ | refine gZ 16 ?_
           try (refine zam 80 _ rfl (congrArg Value.bool k4) ?_)
           first | refine gY hT 17 ?_ | refine gZ 17 ?_
           first | refine gY hT 18 ?_ | refine gZ 18 ?_
           first | refine gW hT 19 ?_ | refine gZ 19 ?_
           first | refine gY hT 20 ?_ | refine gZ 20 ?_
           try (refine zam 84 _ rfl (congrArg Value.bool k5) ?_)
           first | refine gY hT 21 ?_ | refine gZ 21 ?_
           refine gY hT 22 ?_
           refine zak dK ?_
           exact ⟨(), fS, sA, List.nil_subset _⟩
         ·cases bb with
          | true =>
            have hcode : ncode L = 21 := by
             rw [hc2, if_pos (.inr (.inr (.inr (zan ⟨i, by omega, by rw [← hWe]; exact hbt.1 rfl⟩))))]
            (repeat (refine gG ?_; try intro _))
            refine zba none 4 EE ?_
            refine zad hT rfl rfl (.tmp rfl (.tmp rfl (.tmp rfl .nil))) (fun w' hk => ?_)
            exact Ret.mk (⟨⟨none, 0, 0⟩, []⟩, false, 21) (zjZ hcode.symm (by decide)) rfl hk sA
          | false =>
            (repeat (refine gG ?_; try intro _))
            refine zag rfl (i + 1) ⟨by omega, fun i' h => by
             by_cases e : i' = i
             ·subst e; intro h'; have := hbt.2 h'; cases this
             ·exact hno i' (by omega)⟩ (by omega) fS sA sS
        ·have hiW : i = W.length := by omega
         have hcode : ncode L = 0 := by
          rw [hc2, if_neg]
          rintro (h | h | h | h)
          ·omega
          ·omega
          ·omega
          ·obtain ⟨i', h1', h2'⟩ := zaQ.1 h
           rw [← hWe] at h2'
           exact hno i' (by omega) h2'
         (repeat (refine gG ?_; try intro _))
         refine zaW _ uD (fun A5 c5 hA5 hA51 hA52 hA53 => ?_)
         obtain ⟨rfl, rfl⟩ : (some ⟨b3, o3, none⟩ : Option Addr) = A5 ∧ c3 = c5 := by injection hA5 with e1 e2 e3; exact ⟨e1, e3⟩
         refine zad hT rfl rfl (.tmp rfl (.tmp rfl (.tmp rfl .nil))) (fun w' hk => ?_)
         exact Ret.mk (⟨⟨some ⟨b3, o3, none⟩, W.length, c3⟩, W⟩, tB (kd = 3), 0) ⟨⟨rfl, hA51, hA52, hA53⟩, hcode.symm, by rw [if_pos hcode, hgs]; show W = decN B (nB B); rw [enb]; exact hWe, by rw [if_pos hcode, hgs]⟩ rfl hk sA
  ·rw [zpq hk34] at hc
   (repeat' (first | (refine gH ?_; try intro _) | (refine gS ?_ ?_ <;> intro _) | fail))
   refine zba none 4 EE ?_
   refine zad hT rfl rfl (.tmp rfl (.tmp rfl (.tmp rfl .nil))) (fun w' hk => ?_)
   exact Ret.mk (⟨⟨none, 0, 0⟩, []⟩, false, 21) (zjZ hc.symm (by decide)) rfl hk sA
 ·rw [nc_err he] at hc
  (repeat' (first | (refine gH ?_; try intro _) | (refine gS ?_ ?_ <;> intro _) | fail))
  refine zba none 4 EE ?_
  refine zad hT rfl rfl (.tmp rfl (.tmp rfl (.tmp rfl .nil))) (fun w' hk => ?_)
  exact Ret.mk (⟨⟨none, 0, 0⟩, []⟩, false, ec) (zjZ hc.symm he) rfl hk sA
end Go.Proofs.YtaghmffgoomebaaGreat.Nd
namespace Go.Proofs.YtaghmffgoomebaaGreat.Nd
open Go.RowKit Mem Gx Rd Bytes
theorem zcy {n : Int} {k : Nat} (R : List Int) (h0 : 0 ≤ n) (h1 : n < 256 ^ k) : num ((le n k ++ R).take k) = n := by
 rw [List.take_left' (zaL _ _), zoH n h0 k, Int.emod_eq_of_lt h0 h1]
theorem ze6 {B X R : List Int} {o k : Nat} (h : B.drop o = X ++ R) (hk : X.length = k) : B.drop (o + k) = R := by
 have : B.drop (o + k) = (B.drop o).drop k := by rw [List.drop_drop]
 rw [this, h]
 exact List.drop_left' hk
theorem zn1 {B R : List Int} {o : Nat} {y : EntD} (hy : y.Bd) (h : B.drop o = entB y ++ R) : entAt B o = y := by
 obtain ⟨⟨y1, y2, y3⟩, y4⟩ := hy
 have h0 : B.drop o = le y.k.v 2 ++ (le y.k.b 4 ++ (le y.k.s 8 ++ (le y.a 4 ++ R))) := by
  rw [h]; unfold entB keyB; simp only [List.append_assoc]
 have h2 := ze6 h0 (zaL _ _)
 have h3 := ze6 h2 (zaL _ _)
 have h4 := ze6 h3 (zaL _ _)
 have e14 : o + 14 = o + 2 + 4 + 8 := by omega
 unfold entAt keyAt
 rw [e14, h0, h2, h3, h4, zcy _ y1.1 (by omega), zcy _ y2.1 (by omega), zcy _ y3.1 (by omega), zcy _ y4.1 (by omega)]
theorem zki (L : List EntD) : ∀ i, (entsB L).drop (18 * i) = entsB (L.drop i) := by
 induction L with
 | nil => intro i; simp [entsB]
 | cons x r ih =>
   intro i
   rcases i with _ | i
   ·rfl
   ·have : entsB (x :: r) = entB x ++ entsB r := rfl
    rw [this, List.drop_succ_cons, ← ih i, show 18 * (i + 1) = (entB x).length + 18 * i by rw [zjr]; omega]
    rw [← List.drop_drop, List.drop_left]
theorem zkh {L : List EntD} {i : Nat} {y : EntD} (h : L[i]? = some y) : (nodeB L).drop (1 + 18 * i) = entB y ++ entsB (L.drop (i + 1)) := by
 have hi : i < L.length := by
  rcases Nat.lt_or_ge i L.length with h1 | h1
  ·exact h1
  ·rw [List.getElem?_eq_none h1] at h; cases h
 rw [List.getElem?_eq_getElem hi] at h
 injection h with h
 have e : (nodeB L).drop (1 + 18 * i) = (entsB L).drop (18 * i) := by
  unfold nodeB
  rw [Nat.add_comm]
  rfl
 rw [e, zki, List.drop_eq_getElem_cons hi, h]
 rfl
theorem zfH {L : List EntD} (hb : ∀ e ∈ L, e.Bd) : decN (nodeB L) L.length = L := by
 refine List.ext_getElem? fun i => ?_
 rcases Nat.lt_or_ge i L.length with h | h
 ·have hy : L[i]? = some L[i] := List.getElem?_eq_getElem h
  unfold decN
  rw [List.getElem?_map, List.getElem?_range h, Option.map_some, zn1 (hb _ (List.getElem_mem h)) (zkh hy), hy]
 ·rw [List.getElem?_eq_none h, List.getElem?_eq_none (by rw [zjw]; exact h)]
theorem zeJ (L : List EntD) : manyB (nodeB L) = L.length := by
 unfold manyB nodeB
 simp [num]
theorem zgb {L : List EntD} (h : L.length ≤ 6) : nB (nodeB L) = L.length := by
 unfold nB
 rw [zeJ, Int.toNat_natCast]
 omega
theorem zhW {L : List EntD} {k : Int} (hk : k = 3 ∨ k = 4) (hb : ∀ e ∈ L, e.Bd) (h1 : 1 ≤ L.length) (h6 : L.length ≤ 6) (ha : Asc L) (hn : k = 4 → ∀ e ∈ L, e.a ≠ 0) : ncode (Page.page k (nodeB L)) = 0 := by
 rw [ziY (Page.zhs (by omega) (by omega) (by rw [zbK]; omega)), zlh hk (by rw [zbK, zgb h6]; omega), zeJ, zgb h6, zbK, zfH hb, if_neg]
 rintro (h | h | h | h)
 ·omega
 ·omega
 ·omega
 ·obtain ⟨i, hi, hx⟩ := zaQ.1 h
  rcases hx with ⟨h0, hx⟩ | ⟨h4, hx⟩
  ·exact hx (ha i h0 hi)
  ·rw [List.getD_eq_getElem?_getD, List.getElem?_eq_getElem hi] at hx
   exact hn h4 _ (List.getElem_mem hi) hx
end Go.Proofs.YtaghmffgoomebaaGreat.Nd
