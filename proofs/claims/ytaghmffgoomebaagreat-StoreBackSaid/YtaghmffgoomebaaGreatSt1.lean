/- A tree of one leaf, made and saved; the chapter's example. -/
import Derived.Test.YtaghmffgoomebaaGreatNdU
import Derived.Test.YtaghmffgoomebaaGreatRf1
import Derived.Test.YtaghmffgoomebaaGreatAl4
set_option linter.unusedVariables false
set_option linter.unusedSimpArgs false
namespace Go.Proofs.YtaghmffgoomebaaGreat.St
open Go.RowKit Mem Gx Bytes Dk Al Rf Hp Nd Ch
set_option maxRecDepth 100000
set_option maxHeartbeats 4000000
theorem zcI {w : World} {g T : Nat} {cs : List Value} {α : Type} [Inhabited α] {sz : Nat} {enc : α → Nat → Value} {M : List α} (h : (blk g cs T).p w) (he : cs = flatF sz enc M) : Sl w (some ⟨g, 0, none⟩) sz enc M := (zmq (T := T) (g := g) he).1 w (fun φ hφ => by obtain rfl := m1 hφ; exact h)
theorem zcs (w : World) : Calls Tryz.prog 86 [.int .i64 16].toArray w (Ret (fun _ : Nat => True) (fun q => .pointer (some ⟨q, 0, none⟩)) (fun _ => []) w) := by
 refine zab T [] [] [] Tryz.func86 rfl Tryz.ntmps86 rfl (Kn.start _) ?_
 (repeat (refine gG ?_; try intro _))
 refine g_yd rfl rfl (Ys.yd (zfo 16 rfl rfl rfl (by decide))) ?_
 refine g_yd rfl rfl (Ys.yd (zgJ 16 rfl rfl rfl (by decide))) ?_
 (repeat (refine gG ?_; try intro _))
 rename_i g
 refine zad hT rfl rfl (.tmp rfl .nil) (fun w' hk => ?_)
 exact Ret.mk g trivial rfl hk sA
theorem zmX (t : Nat) (n : Value) (w : World) (h : Rd1 w (blk t [.pointer none, n] 55)) : Calls Tryz.prog 57 [.pointer (some ⟨t, 0, none⟩), .agg #[.int .u16 0, .int .u32 0, .int .u64 1]].toArray w (Ret (fun _ : Nat => True) (fun q => .tuple #[.pointer (some ⟨q, 0, none⟩), .pointer none]) (fun _ => []) w) := by
 refine zab T [] [] [blk t [.pointer none, n] 55] Tryz.func57 rfl Tryz.ntmps57 rfl (Rds.cons h .nil).kn ?_
 refine za9 (g := t) mE ?_
 (repeat (refine gG ?_; try intro _))
 refine cR (fun w hk => zcs w) (fun s _ => ?_)
 (repeat (refine gG ?_; try intro _))
 refine zap (fun (u : Nat) => (True)) (fun u => [(6, .pointer (some ⟨s, 0, none⟩)), (7, .pointer none)]) (fun u => []) (fun u => []) (fun u => 0) 0 rfl trivial fS sA sS ?_
 rintro u hI
 (repeat' (first | (refine gH ?_; try intro _) | (refine gS ?_ ?_ <;> intro _) | fail))
 refine zad hT rfl rfl (.tmp rfl (.tmp rfl .nil)) (fun w' hk => ?_)
 exact Ret.mk s trivial rfl hk sA
theorem zmZ (t : Nat) (w : World) (h : Rd1 w (blk t [.pointer none, .int .i64 0] 55)) :
 Calls Tryz.prog 33 [.pointer (some ⟨t, 0, none⟩), .agg #[.int .u16 0, .int .u32 0, .int .u64 1, .int .u32 2]].toArray w (RetM (blk t [.pointer none, .int .i64 0] 55) (fun d => IsLeaf [(⟨⟨0, 0, 1⟩, 2⟩ : EntD)] d ∧ d.a = 0) (fun _ => .tuple #[.int .u32 0, .bool false]) (fun d => packF (blk t [d.ptr, .int .i64 1] 55 :: d.fs)) w) := by
 refine zab T (finE (blk t [.pointer none, .int .i64 0] 55) w) [blk t [.pointer none, .int .i64 0] 55] [] Tryz.func33 rfl Tryz.ntmps33 rfl (Kn.startM h (fun b hb => (zaB h.2 b).2 hb) (fun ψ hψ => by cases hψ)) ?_
 (repeat (refine gG ?_; try intro _))
 refine cR (fun w hk => zmX t (.int .i64 0) w (hk.rO (φ := blk t [.pointer none, .int .i64 0] 55) mE)) (fun s _ => ?_)
 (repeat' (first | (refine gH ?_; try intro _) | (refine gS ?_ ?_ <;> intro _) | fail))
 rename_i g1 g2
 refine cR (fun w hk => zeO (some ⟨g2, 0, none⟩) 1 1 [(⟨⟨0, 0, 1⟩, 2⟩ : EntD)] w rfl (by decide) (zcI (hk.pO (blk g2 [.int .u16 0, .int .u32 0, .int .u64 1, .int .u32 2] 31) mE) rfl)) (fun d hd => ?_)
 obtain ⟨dg, lf, ⟨KA, Kn, Kc⟩, Ks, ⟨VA, Vn, Vc⟩, Vs, ⟨CA, Cn, Cc⟩, Cs, da⟩ := d
 dsimp only [NodeD.fs, NodeD.ptr]
 (repeat (refine gG ?_; try intro _))
 refine zbv [blk t [.pointer (some ⟨dg, 0, none⟩), .int .i64 1] 55, blk dg [.bool lf, .slice KA Kn Kc, .slice VA Vn Vc, .slice CA Cn Cc, .int .u32 da] 109, sl KA 3 KE Ks, sl VA 1 (IE .u32) Vs, sl CA 1 PE Cs] [] sA ?_
 refine zad hT rfl rfl (.tmp rfl (.tmp rfl .nil)) (fun w' hk => ?_)
 exact RetM.mk (ψ := fun d : NodeD => packF (blk t [d.ptr, .int .i64 1] 55 :: d.fs)) (⟨dg, lf, ⟨KA, Kn, Kc⟩, Ks, ⟨VA, Vn, Vc⟩, Vs, ⟨CA, Cn, Cc⟩, Cs, da⟩ : NodeD) ⟨hd.1, hd.1.a⟩ rfl hk (fun b hb => (zaB h.2 b).1 hb) (.head _)
theorem zcV (t : Nat) (r n : Value) (w : World) (hr : ∃ a, r = .pointer a) (h : Rd1 w (blk t [r, n] 55)) : Calls Tryz.prog 21 [.pointer (some ⟨t, 0, none⟩)].toArray w fun e w' => e = .returned r ∧ Below w.heap.size w w' := by
 obtain ⟨a, rfl⟩ := hr
 refine zab T [] [] [blk t [.pointer a, n] 55] Tryz.func21 rfl Tryz.ntmps21 rfl (Rds.cons h .nil).kn ?_
 refine za9 (g := t) mE ?_
 (repeat (refine gG ?_; try intro _))
 refine zad hT rfl rfl (.tmp rfl .nil) (fun w' hk => ?_)
 exact ⟨rfl, hk.toBelow⟩
theorem zcS (t : Nat) (r : Value) (n : Int) (w : World) (h : Rd1 w (blk t [r, .int .i64 n] 55)) : Calls Tryz.prog 13 [.pointer (some ⟨t, 0, none⟩)].toArray w fun e w' => e = .returned (.int .i64 n) ∧ Below w.heap.size w w' := by
 refine zab T [] [] [blk t [r, .int .i64 n] 55] Tryz.func13 rfl Tryz.ntmps13 rfl (Rds.cons h .nil).kn ?_
 refine za9 (g := t) mE ?_
 (repeat (refine gG ?_; try intro _))
 refine zad hT rfl rfl (.tmp rfl .nil) (fun w' hk => ?_)
 exact ⟨rfl, hk.toBelow⟩
theorem zl9 (g : Nat) (K V : Value) (CA : Option Addr) (Cc : Nat) (w : World) (h : Rd1 w (blk g [.bool true, K, V, .slice CA 0 Cc, .int .u32 0] 109)) : Calls Tryz.prog 41 [.pointer (some ⟨g, 0, none⟩)].toArray w fun e w' => e = .returned (.int .i64 1) ∧ Below w.heap.size w w' := by
 refine zab T [] [] [blk g [.bool true, K, V, .slice CA 0 Cc, .int .u32 0] 109] Tryz.func41 rfl Tryz.ntmps41 rfl (Rds.cons h .nil).kn ?_
 refine za9 (g := g) mE ?_
 (repeat' (first | (refine gH ?_; try intro _) | (refine gS ?_ ?_ <;> intro _) | fail))
 refine zap (fun (u : Nat) => (True)) (fun u => [(3, .int .i64 1), (14, .slice CA 0 Cc), (15, .int .i64 ((0 : Nat) : Int)), (16, .int .i64 0)]) (fun u => []) (fun u => []) (fun u => 0) 0 rfl trivial fS sA sS ?_
 rintro u hI
 (repeat' (first | (refine gH ?_; try intro _) | (refine gS ?_ ?_ <;> intro _) | fail))
 refine zad hT rfl rfl (.tmp rfl .nil) (fun w' hk => ?_)
 exact ⟨rfl, hk.toBelow⟩
theorem e0_bd : ∀ e ∈ [(⟨⟨0, 0, 1⟩, 2⟩ : EntD)], e.Bd := fun e he => by
 obtain rfl := m1 he
 exact ⟨⟨⟨by decide, by decide⟩, ⟨by decide, by decide⟩, ⟨by decide, by decide⟩⟩, ⟨by decide, by decide⟩⟩
theorem zkB (sp g pa dg : Nat) (sv : Value) (S : List SecD) (D : AlD) (KA VA CA : Option Addr) (Km Kc Vn Vc Cc : Nat) (w : World) (hd : IsLeaf [(⟨⟨0, 0, 1⟩, 2⟩ : EntD)] (⟨dg, true, ⟨KA, Km, Kc⟩, [⟨0, 0, 1⟩], ⟨VA, Vn, Vc⟩, [2], ⟨CA, 0, Cc⟩, [], 0⟩ : NodeD)) (hD : DkOk S []) (hSl : S.length = 100) (hAI : AlI 9 D (⟨iota 9, [], [], []⟩ : AlS)) (hK : Rd1 w ((sl KA 3 KE [(⟨0, 0, 1⟩ : KeyD)]))) (hV : Rd1 w ((sl VA 1 (IE .u32) ([2] : List Int)))) (hdis : ∀ b, (packF [blk sp [.pointer (some ⟨g, 0, none⟩), .int .i64 ((4 : Nat) : Int), .pointer (some ⟨pa, 0, none⟩), .slice none 0 0] 103, blk dg [.bool true, .slice KA Km Kc, .slice VA Vn Vc, .slice CA 0 Cc, .int .u32 0] 109, alF pa 9 D (⟨iota 9, [], [], []⟩ : AlS), dkF g ⟨sv, .slice none 0 0, S, []⟩]).S b → ¬ ((sl KA 3 KE [(⟨0, 0, 1⟩ : KeyD)])).S b ∧ ¬ ((sl VA 1 (IE .u32) ([2] : List Int))).S b) (h : Rd1 w (packF [blk sp [.pointer (some ⟨g, 0, none⟩), .int .i64 ((4 : Nat) : Int), .pointer (some ⟨pa, 0, none⟩), .slice none 0 0] 103, blk dg [.bool true, .slice KA Km Kc, .slice VA Vn Vc, .slice CA 0 Cc, .int .u32 0] 109, alF pa 9 D (⟨iota 9, [], [], []⟩ : AlS), dkF g ⟨sv, .slice none 0 0, S, []⟩])) :
 Calls Tryz.prog 42 [.pointer (some ⟨sp, 0, none⟩), .pointer (some ⟨dg, 0, none⟩)].toArray w (RetM (packF [blk sp [.pointer (some ⟨g, 0, none⟩), .int .i64 ((4 : Nat) : Int), .pointer (some ⟨pa, 0, none⟩), .slice none 0 0] 103, blk dg [.bool true, .slice KA Km Kc, .slice VA Vn Vc, .slice CA 0 Cc, .int .u32 0] 109, alF pa 9 D (⟨iota 9, [], [], []⟩ : AlS), dkF g ⟨sv, .slice none 0 0, S, []⟩]) (fun _ : Option Addr × Nat => True) (fun _ => .int .i64 0) (fun q => packF [blk sp [.pointer (some ⟨g, 0, none⟩), .int .i64 ((4 : Nat) : Int), .pointer (some ⟨pa, 0, none⟩), .slice q.1 1 q.2] 103, own 0 26 1 (.slice q.1 1 q.2) (IE .u32) ([1] : List Int)]) w) := by
 have hpn := fun w h => zha (⟨dg, true, ⟨KA, Km, Kc⟩, [⟨0, 0, 1⟩], ⟨VA, Vn, Vc⟩, [2], ⟨CA, 0, Cc⟩, [], 0⟩ : NodeD) [(⟨⟨0, 0, 1⟩, 2⟩ : EntD)] w hd.w (by decide) (by decide) e0_bd h
 refine zab T (finE (packF [blk sp [.pointer (some ⟨g, 0, none⟩), .int .i64 ((4 : Nat) : Int), .pointer (some ⟨pa, 0, none⟩), .slice none 0 0] 103, blk dg [.bool true, .slice KA Km Kc, .slice VA Vn Vc, .slice CA 0 Cc, .int .u32 0] 109, alF pa 9 D (⟨iota 9, [], [], []⟩ : AlS), dkF g ⟨sv, .slice none 0 0, S, []⟩]) w) [blk sp [.pointer (some ⟨g, 0, none⟩), .int .i64 ((4 : Nat) : Int), .pointer (some ⟨pa, 0, none⟩), .slice none 0 0] 103, blk dg [.bool true, .slice KA Km Kc, .slice VA Vn Vc, .slice CA 0 Cc, .int .u32 0] 109, alF pa 9 D (⟨iota 9, [], [], []⟩ : AlS), dkF g ⟨sv, .slice none 0 0, S, []⟩] [(sl KA 3 KE [(⟨0, 0, 1⟩ : KeyD)]), (sl VA 1 (IE .u32) ([2] : List Int))] Tryz.func42 rfl Tryz.ntmps42 rfl (Kn.startP h (fun b hb => (zaB h.2 b).2 hb) (fun ψ hψ => by rcases List.mem_cons.1 hψ with rfl | hψ; exact ⟨hK, fun b hb => (hdis b hb).1⟩; obtain rfl := m1 hψ; exact ⟨hV, fun b hb => (hdis b hb).2⟩)) ?_
 (repeat (refine gG ?_; try intro _))
 refine zap (fun (u : Nat) => (True)) (fun u => [(0, .pointer (some ⟨sp, 0, none⟩)), (1, .pointer (some ⟨dg, 0, none⟩)), (15, .slice CA 0 Cc), (16, .int .i64 ((0 : Nat) : Int)), (17, .int .i64 0)]) (fun u => [blk sp [.pointer (some ⟨g, 0, none⟩), .int .i64 ((4 : Nat) : Int), .pointer (some ⟨pa, 0, none⟩), .slice none 0 0] 103, blk dg [.bool true, .slice KA Km Kc, .slice VA Vn Vc, .slice CA 0 Cc, .int .u32 0] 109, alF pa 9 D (⟨iota 9, [], [], []⟩ : AlS), dkF g ⟨sv, .slice none 0 0, S, []⟩]) (fun u => [(sl KA 3 KE [(⟨0, 0, 1⟩ : KeyD)]), (sl VA 1 (IE .u32) ([2] : List Int))]) (fun u => 0) 0 rfl trivial fS sA sS ?_
 rintro u hI
 (repeat' (first | (refine gH ?_; try intro _) | (refine gS ?_ ?_ <;> intro _) | fail))
 refine cR (fun w hk => hpn w (.cons (hk.rO (φ := blk dg [.bool true, .slice KA Km Kc, .slice VA Vn Vc, .slice CA 0 Cc, .int .u32 0] 109) mE) (.cons (hk.rR (φ := (sl KA 3 KE [(⟨0, 0, 1⟩ : KeyD)])) mE) (.cons (hk.rR (φ := (sl VA 1 (IE .u32) ([2] : List Int))) mE) .nil)))) (fun r hr => ?_)
 obtain ⟨⟨uA, un, uc⟩, M, rc⟩ := r
 obtain ⟨⟨u1, u2, u3, u4⟩, hc, hM⟩ := hr
 dsimp only [SlV.v] at u1 u2 u3 u4 hc hM ⊢
 have hcp : putC [(⟨⟨0, 0, 1⟩, 2⟩ : EntD)] true = 0 := by unfold putC; simp
 rw [hcp] at hc
 have hMe : M = Page.page 3 (nodeB [(⟨⟨0, 0, 1⟩, 2⟩ : EntD)]) := by rw [hM]; unfold putM; rw [if_pos hcp, if_pos rfl]
 have hMo : SecOk M := by
  have hl : (nodeB [(⟨⟨0, 0, 1⟩, 2⟩ : EntD)]).length = 19 := zbK _
  rw [hMe]
  exact ⟨Page.zcv (by omega), Page.zf6 (by omega) (by omega) (zcL _ (by decide))⟩
 subst hc
 (repeat' (first | (refine gH ?_; try intro _) | (refine gS ?_ ?_ <;> intro _) | fail))
 refine g_mv rfl (zax (φ := alF pa 9 D (⟨iota 9, [], [], []⟩ : AlS)) (ψ := fun r : AlD × AlS × Int × Int => alF pa 9 r.1 r.2.1) (fun w1 hk => by exact zhD pa 9 D (⟨iota 9, [], [], []⟩ : AlS) w1 (by decide) hAI (hk.rO (φ := alF pa 9 D (⟨iota 9, [], [], []⟩ : AlS)) mE)) rfl rfl rfl rfl rfl kR uD (fun r hr => ?_))
 obtain ⟨D2, s2, y, e⟩ := r
 obtain ⟨hI2, hr2⟩ := hr
 dsimp only at hI2 hr2
 obtain ⟨rfl, rfl⟩ : y = 1 ∧ e = 0 := by injection hr2 with h1 h2; injection h2 with h2 h3; exact ⟨h2, h3⟩
 dsimp only
 refine zbw (φ := sl uA 1 (IE .u8) M) sE ?_
 (repeat' (first | (refine gH ?_; try intro _) | (refine gS ?_ ?_ <;> intro _) | fail))
 refine g_mv rfl (zax (φ := dkF g ⟨sv, .slice none 0 0, S, []⟩) (ψ := fun q : Value × SecD => dkF g ⟨sv, q.1, S, [] ++ [(⟨1 + 4 + 1, q.2⟩ : WrD)]⟩) (fun w1 hk => by exact zfu g 4 sv (.slice none 0 0) S [] 1 uA un uc M w1 hD (Nat.zero_le _) (by decide) (by decide) (by decide) (by omega) u1 hMo (hk.rO (φ := dkF g ⟨sv, .slice none 0 0, S, []⟩) mE) (hk.rR (φ := sl uA 1 (IE .u8) M) mE) (fun b hb => hk.disR (dkF g ⟨sv, .slice none 0 0, S, []⟩) mE (sl uA 1 (IE .u8) M) mE b hb)) rfl rfl rfl rfl rfl kR uD (fun q hq => ?_))
 (repeat (refine gG ?_; try intro _))
 refine zbO 0 26 1 (IE .u32) ?_
 refine zhq (f' := [(0, .pointer (some ⟨sp, 0, none⟩)), (1, .pointer (some ⟨dg, 0, none⟩))]) (O' := [own 0 26 1 (.slice none 0 0) (IE .u32) ([] : List Int), blk sp [.pointer (some ⟨g, 0, none⟩), .int .i64 ((4 : Nat) : Int), .pointer (some ⟨pa, 0, none⟩), .slice none 0 0] 103, blk dg [.bool true, .slice KA Km Kc, .slice VA Vn Vc, .slice CA 0 Cc, .int .u32 1] 109]) (R' := []) fS sA sS ?_
 refine zas [2] (Cut _ (fun _ : Option Addr × Nat => []) (fun q => [blk sp [.pointer (some ⟨g, 0, none⟩), .int .i64 ((4 : Nat) : Int), .pointer (some ⟨pa, 0, none⟩), .slice q.1 1 q.2] 103, own 0 26 1 (.slice q.1 1 q.2) (IE .u32) ([1] : List Int)]) (fun _ => [])) rfl rfl kR ?_ (zaD fun q => ?_)
 ·skip
  refine gY hT 0 ?_
  refine gY hT 1 ?_
  refine gY hT 2 ?_
  refine gY hT 3 ?_
  refine gY hT 5 ?_
  refine gY hT 6 ?_
  refine gY hT 7 ?_
  refine gW hT 8 ?_
  refine gA2 4 9 ?_ ?_
  ·refine zaC rfl (zaf hT rfl rfl mE rfl rfl) ?_
   refine ⟨sF, ?_⟩
   refine gP 9 ?_
   (refine zaa (len := 1) rfl hT rfl rfl rfl rfl rfl rfl rfl rfl ?_; intro g6)
   refine ⟨sF, ?_⟩
   refine gP 10 ?_
   (refine zac (L := []) rfl [1] rfl rfl rfl rfl Ch.zaO uD (zah mE rfl) rfl Ch.oneU (by decide) (by decide) (Nat.zero_le _) ?_; intro v2)
   refine ⟨sF, ?_⟩
   (refine zai v2 mE (fun A3 c3 hv3 _ _ _ => ?_); subst hv3)
   refine gY hT 11 ?_
   refine gY hT 12 ?_
   first | refine gO 13 ?_ | (refine gX 13 ?_; intro _)
   refine zak dK ?_
   exact ⟨(A3, c3), fS, sA, sS⟩
  ·(refine zaa (len := 1) rfl hT rfl rfl rfl rfl rfl rfl rfl rfl ?_; intro g6)
   refine ⟨sF, ?_⟩
   refine gP 4 ?_
   refine zaC rfl (zaf hT rfl rfl mE rfl rfl) ?_
   refine ⟨sF, ?_⟩
   refine gP 10 ?_
   (refine zac (L := []) rfl [1] rfl rfl rfl rfl Ch.zaO uD (zah mE rfl) rfl Ch.oneU (by decide) (by decide) (Nat.zero_le _) ?_; intro v2)
   refine ⟨sF, ?_⟩
   (refine zai v2 mE (fun A3 c3 hv3 _ _ _ => ?_); subst hv3)
   refine gY hT 11 ?_
   refine gY hT 12 ?_
   first | refine gO 13 ?_ | (refine gX 13 ?_; intro _)
   refine zak dK ?_
   exact ⟨(A3, c3), fS, sA, sS⟩
 (repeat (refine gG ?_; try intro _))
 refine zad hT rfl rfl (.tmp rfl .nil) (fun w' hk => ?_)
 exact RetM.mkP (ll := fun q : Option Addr × Nat => [blk sp [.pointer (some ⟨g, 0, none⟩), .int .i64 ((4 : Nat) : Int), .pointer (some ⟨pa, 0, none⟩), .slice q.1 1 q.2] 103, own 0 26 1 (.slice q.1 1 q.2) (IE .u32) ([1] : List Int)]) q trivial rfl hk (fun b hb => (zaB h.2 b).1 hb) sA
theorem zng (t g pa dg : Nat) (sv : Value) (S : List SecD) (D : AlD) (KA VA CA : Option Addr) (Km Kc Vn Vc Cc : Nat) (w : World) (hd : IsLeaf [(⟨⟨0, 0, 1⟩, 2⟩ : EntD)] (⟨dg, true, ⟨KA, Km, Kc⟩, [⟨0, 0, 1⟩], ⟨VA, Vn, Vc⟩, [2], ⟨CA, 0, Cc⟩, [], 0⟩ : NodeD)) (hD : DkOk S []) (hSl : S.length = 100) (hAI : AlI 9 D (⟨iota 9, [], [], []⟩ : AlS)) (hK : Rd1 w ((sl KA 3 KE [(⟨0, 0, 1⟩ : KeyD)]))) (hV : Rd1 w ((sl VA 1 (IE .u32) ([2] : List Int)))) (hdis : ∀ b, (packF [blk t [.pointer (some ⟨dg, 0, none⟩), .int .i64 1] 55, blk dg [.bool true, .slice KA Km Kc, .slice VA Vn Vc, .slice CA 0 Cc, .int .u32 0] 109, alF pa 9 D (⟨iota 9, [], [], []⟩ : AlS), dkF g ⟨sv, .slice none 0 0, S, []⟩]).S b → ¬ ((sl KA 3 KE [(⟨0, 0, 1⟩ : KeyD)])).S b ∧ ¬ ((sl VA 1 (IE .u32) ([2] : List Int))).S b) (h : Rd1 w (packF [blk t [.pointer (some ⟨dg, 0, none⟩), .int .i64 1] 55, blk dg [.bool true, .slice KA Km Kc, .slice VA Vn Vc, .slice CA 0 Cc, .int .u32 0] 109, alF pa 9 D (⟨iota 9, [], [], []⟩ : AlS), dkF g ⟨sv, .slice none 0 0, S, []⟩])) :
 Calls Tryz.prog 18 [.pointer (some ⟨t, 0, none⟩), .pointer (some ⟨pa, 0, none⟩), .agg #[.pointer (some ⟨g, 0, none⟩), .int .i64 ((4 : Nat) : Int)]].toArray w (RetM (packF [blk t [.pointer (some ⟨dg, 0, none⟩), .int .i64 1] 55, blk dg [.bool true, .slice KA Km Kc, .slice VA Vn Vc, .slice CA 0 Cc, .int .u32 0] 109, alF pa 9 D (⟨iota 9, [], [], []⟩ : AlS), dkF g ⟨sv, .slice none 0 0, S, []⟩]) (fun _ : Option Addr × Nat => True) (fun q => .tuple #[.slice q.1 1 q.2, .int .i64 0]) (fun q => packF [own 0 26 1 (.slice q.1 1 q.2) (IE .u32) ([1] : List Int)]) w) := by
 have haf := fun w h => zff pa 9 D (⟨iota 9, [], [], []⟩ : AlS) w hAI h
 rw [show ((⟨iota 9, [], [], []⟩ : AlS)).S.length = 9 from zc0 9] at haf
 refine zab T (finE (packF [blk t [.pointer (some ⟨dg, 0, none⟩), .int .i64 1] 55, blk dg [.bool true, .slice KA Km Kc, .slice VA Vn Vc, .slice CA 0 Cc, .int .u32 0] 109, alF pa 9 D (⟨iota 9, [], [], []⟩ : AlS), dkF g ⟨sv, .slice none 0 0, S, []⟩]) w) [blk t [.pointer (some ⟨dg, 0, none⟩), .int .i64 1] 55, blk dg [.bool true, .slice KA Km Kc, .slice VA Vn Vc, .slice CA 0 Cc, .int .u32 0] 109, alF pa 9 D (⟨iota 9, [], [], []⟩ : AlS), dkF g ⟨sv, .slice none 0 0, S, []⟩] [(sl KA 3 KE [(⟨0, 0, 1⟩ : KeyD)]), (sl VA 1 (IE .u32) ([2] : List Int))] Tryz.func18 rfl Tryz.ntmps18 rfl (Kn.startP h (fun b hb => (zaB h.2 b).2 hb) (fun ψ hψ => by rcases List.mem_cons.1 hψ with rfl | hψ; exact ⟨hK, fun b hb => (hdis b hb).1⟩; obtain rfl := m1 hψ; exact ⟨hV, fun b hb => (hdis b hb).2⟩)) ?_
 (repeat (refine gG ?_; try intro _))
 rename_i g5 sp
 (repeat' (first | (refine gH ?_; try intro _) | (refine g_mv rfl ?_; refine cb (fun w hk => zcV t (.pointer (some ⟨dg, 0, none⟩)) (.int .i64 1) w ⟨_, rfl⟩ (hk.rO (φ := blk t [.pointer (some ⟨dg, 0, none⟩), .int .i64 1] 55) mE)) ?_) | (refine g_mv rfl ?_; refine cb (fun w hk => zl9 dg (.slice KA Km Kc) (.slice VA Vn Vc) CA Cc w (hk.rO (φ := blk dg [.bool true, .slice KA Km Kc, .slice VA Vn Vc, .slice CA 0 Cc, .int .u32 0] 109) mE)) ?_) | (refine g_mv rfl ?_; refine cb (fun w hk => haf w (hk.rO (φ := alF pa 9 D (⟨iota 9, [], [], []⟩ : AlS)) mE)) ?_) | (refine gS ?_ ?_ <;> intro _) | fail))
 refine zcD [blk sp [.pointer (some ⟨g, 0, none⟩), .int .i64 ((4 : Nat) : Int), .pointer (some ⟨pa, 0, none⟩), .slice none 0 0] 103, blk dg [.bool true, .slice KA Km Kc, .slice VA Vn Vc, .slice CA 0 Cc, .int .u32 0] 109, alF pa 9 D (⟨iota 9, [], [], []⟩ : AlS), dkF g ⟨sv, .slice none 0 0, S, []⟩] [] sA ?_
 refine g_mv rfl (zax (φ := packF [blk sp [.pointer (some ⟨g, 0, none⟩), .int .i64 ((4 : Nat) : Int), .pointer (some ⟨pa, 0, none⟩), .slice none 0 0] 103, blk dg [.bool true, .slice KA Km Kc, .slice VA Vn Vc, .slice CA 0 Cc, .int .u32 0] 109, alF pa 9 D (⟨iota 9, [], [], []⟩ : AlS), dkF g ⟨sv, .slice none 0 0, S, []⟩]) (ψ := fun q : Option Addr × Nat => packF [blk sp [.pointer (some ⟨g, 0, none⟩), .int .i64 ((4 : Nat) : Int), .pointer (some ⟨pa, 0, none⟩), .slice q.1 1 q.2] 103, own 0 26 1 (.slice q.1 1 q.2) (IE .u32) ([1] : List Int)]) (fun w hk => by exact zkB sp g pa dg sv S D KA VA CA Km Kc Vn Vc Cc w hd hD hSl hAI (hk.rR (φ := (sl KA 3 KE [(⟨0, 0, 1⟩ : KeyD)])) mE) (hk.rR (φ := (sl VA 1 (IE .u32) ([2] : List Int))) mE) (fun b hb => ⟨hk.disR _ mE _ mE b hb, hk.disR _ mE _ mE b hb⟩) (hk.rO (φ := packF [blk sp [.pointer (some ⟨g, 0, none⟩), .int .i64 ((4 : Nat) : Int), .pointer (some ⟨pa, 0, none⟩), .slice none 0 0] 103, blk dg [.bool true, .slice KA Km Kc, .slice VA Vn Vc, .slice CA 0 Cc, .int .u32 0] 109, alF pa 9 D (⟨iota 9, [], [], []⟩ : AlS), dkF g ⟨sv, .slice none 0 0, S, []⟩]) mE)) rfl rfl rfl rfl rfl kR uD (fun q hq => ?_))
 obtain ⟨A, c⟩ := q
 dsimp only
 refine zbJ (l := [blk sp [.pointer (some ⟨g, 0, none⟩), .int .i64 ((4 : Nat) : Int), .pointer (some ⟨pa, 0, none⟩), .slice A 1 c] 103, own 0 26 1 (.slice A 1 c) (IE .u32) ([1] : List Int)]) sE ?_
 (repeat' (first | (refine gH ?_; try intro _) | (refine gS ?_ ?_ <;> intro _) | fail))
 refine zad hT rfl rfl (.tmp rfl (.tmp rfl .nil)) (fun w' hk => ?_)
 exact RetM.mkP (ll := fun q : Option Addr × Nat => [own 0 26 1 (.slice q.1 1 q.2) (IE .u32) ([1] : List Int)]) (A, c) trivial rfl hk (fun b hb => (zaB h.2 b).1 hb) sA
theorem zi5 (g : Nat) (w : World) : Calls Tryz.prog 11 [.int .u32 0, .agg #[.pointer (some ⟨g, 0, none⟩), .int .i64 ((4 : Nat) : Int)]].toArray w (Ret (fun _ : Nat => True) (fun t => .tuple #[.pointer (some ⟨t, 0, none⟩), .slice none 0 0, .int .i64 0]) (fun t => [blk t [.pointer none, .int .i64 0] 55]) w) := by
 refine zab T [] [] [] Tryz.func11 rfl Tryz.ntmps11 rfl (Kn.start _) ?_
 (repeat' (first | (refine gH ?_; try intro _) | (refine gS ?_ ?_ <;> intro _) | fail))
 rename_i t
 refine zad hT rfl rfl (.tmp rfl (.tmp rfl (.tmp rfl .nil))) (fun w' hk => ?_)
 exact Ret.mk t trivial rfl hk sA
structure MdR where
 g : Nat
 sv : Value
 S : List SecD
 pa : Nat
 D : AlD
structure MdOk (n : Nat) (q : MdR) : Prop where
 d : DkOk q.S []
 l : q.S.length = 100
 a : AlI n q.D ⟨iota n, [], [], []⟩
 z : q.S.map SecD.L = List.replicate 100 zsec
theorem zi2 (n : Nat) (w : World) (hn : n ≤ 4096) : Calls Tryz.prog 8 [.int .i64 (n : Nat)].toArray w (Ret (MdOk n) (fun q => .tuple #[.agg #[.pointer (some ⟨q.g, 0, none⟩), .int .i64 ((4 : Nat) : Int)], .pointer (some ⟨q.pa, 0, none⟩), .bool true]) (fun q => [dkF q.g ⟨q.sv, .slice none 0 0, q.S, []⟩, alF q.pa n q.D ⟨iota n, [], [], []⟩]) w) := by
 refine zab T [] [] [] Tryz.func8 rfl Tryz.ntmps8 rfl (Kn.start _) ?_
 (repeat (refine gG ?_; try intro _))
 rename_i g2
 refine cR (fun w hk => zn4 100 (by decide) (by decide) w) (fun q hq => ?_)
 obtain ⟨g, sv, S⟩ := q
 obtain ⟨hS, hSm⟩ := hq
 have hSl : S.length = 100 := by have := congrArg List.length hSm; simpa using this
 dsimp only at *
 (repeat (refine gG ?_; try intro _))
 refine cR (fun w hk => zon n w hn) (fun q hq => ?_)
 obtain ⟨pa, D⟩ := q
 dsimp only at hq ⊢
 (repeat' (first | (refine gH ?_; try intro _) | (refine gS ?_ ?_ <;> intro _) | fail))
 refine zad hT rfl rfl (.cell rfl mE rfl rfl (.tmp rfl (.tmp rfl .nil))) (fun w' hk => ?_)
 refine Ret.mk (⟨g, sv, S, pa, D⟩ : MdR) ⟨⟨hS, (fun x h => by cases h), by dsimp only; omega⟩, hSl, hq, hSm⟩ ?_ hk sA
 first | rfl | (simp [resVal, zed]; done)
theorem zdm {P : Program} {fid : FuncId} {args : Array Value} {w : World} {b c : Bool} (hb : b = c) (h : Calls P fid args w fun e w' => e = .returned (.bool b) ∧ Below w.heap.size w w') : Calls P fid args w fun e w' => e = .returned (.bool c) ∧ Below w.heap.size w w' := by rwa [hb] at h
theorem alive36 (w : World) : Calls Tryz.prog 14 [].toArray w fun e w' => e = .returned (.bool true) ∧ Below w.heap.size w w' := by
 refine zab T [] [] [] Tryz.func14 rfl Tryz.ntmps14 rfl (Kn.start _) ?_
 (repeat (refine gG ?_; try intro _))
 refine cR (fun w hk => zi2 9 w (by decide)) (fun q hq => ?_)
 obtain ⟨g, sv, S, pa, D⟩ := q
 obtain ⟨hD, hSl, ha, _⟩ := hq
 dsimp only at hD hSl ha ⊢
 (repeat' (first | (refine gH ?_; try intro _) | (refine gS ?_ ?_ <;> intro _) | fail))
 refine cR (fun w hk => zi5 g w) (fun t4 _ => ?_)
 (repeat (refine gG ?_; try intro _))
 rename_i g1 _ t
 refine g_mv rfl (zax (φ := blk t [.pointer none, .int .i64 0] 55) (ψ := fun d : NodeD => packF (blk t [d.ptr, .int .i64 1] 55 :: d.fs)) (fun w hk => by exact zmZ t w (hk.rO (φ := blk t [.pointer none, .int .i64 0] 55) mE)) rfl rfl rfl rfl rfl kR uD (fun d hd => ?_))
 obtain ⟨dg, lf, ⟨KA, Km, Kc⟩, Ks, ⟨VA, Vn, Vc⟩, Vs, ⟨CA, Cn, Cc⟩, Cs, da⟩ := d
 obtain ⟨hd, e5⟩ := hd
 have hd1 := hd
 obtain ⟨⟨_, _, hC⟩, e1, e2, e3, e4, _, _⟩ := hd
 dsimp only at e1 e2 e3 e4 e5 hC
 replace e2 : Ks = [⟨0, 0, 1⟩] := e2
 replace e3 : Vs = [2] := e3
 subst e1 e2 e3 e4 e5
 have hCn : Cn = 0 := hC.n
 subst hCn
 dsimp only [NodeD.fs, NodeD.ptr, SlV.v]
 refine zbJ (l := [blk t [.pointer (some ⟨dg, 0, none⟩), .int .i64 1] 55, blk dg [.bool true, .slice KA Km Kc, .slice VA Vn Vc, .slice CA 0 Cc, .int .u32 0] 109, (sl KA 3 KE [(⟨0, 0, 1⟩ : KeyD)]), (sl VA 1 (IE .u32) ([2] : List Int)), sl CA 1 PE ([] : List Nat)]) sE ?_
 dsimp only [List.cons_append, List.nil_append]
 refine zbw (φ := (sl KA 3 KE [(⟨0, 0, 1⟩ : KeyD)])) sE ?_
 refine zbw (φ := (sl VA 1 (IE .u32) ([2] : List Int))) sE ?_
 (repeat (refine gG ?_; try intro _))
 refine zcD [blk t [.pointer (some ⟨dg, 0, none⟩), .int .i64 1] 55, blk dg [.bool true, .slice KA Km Kc, .slice VA Vn Vc, .slice CA 0 Cc, .int .u32 0] 109, alF pa 9 D (⟨iota 9, [], [], []⟩ : AlS), dkF g ⟨sv, .slice none 0 0, S, []⟩] [blk t4 [.pointer none, .int .i64 0] 55] sA ?_
 refine g_mv rfl (zax (φ := packF [blk t [.pointer (some ⟨dg, 0, none⟩), .int .i64 1] 55, blk dg [.bool true, .slice KA Km Kc, .slice VA Vn Vc, .slice CA 0 Cc, .int .u32 0] 109, alF pa 9 D (⟨iota 9, [], [], []⟩ : AlS), dkF g ⟨sv, .slice none 0 0, S, []⟩]) (ψ := fun q : Option Addr × Nat => packF [own 0 26 1 (.slice q.1 1 q.2) (IE .u32) ([1] : List Int)]) (fun w hk => by exact zng t g pa dg sv S D KA VA CA Km Kc Vn Vc Cc w hd1 hD hSl ha (hk.rR (φ := (sl KA 3 KE [(⟨0, 0, 1⟩ : KeyD)])) mE) (hk.rR (φ := (sl VA 1 (IE .u32) ([2] : List Int))) mE) (fun b hb => ⟨hk.disR _ mE _ mE b hb, hk.disR _ mE _ mE b hb⟩) (hk.rO (φ := packF [blk t [.pointer (some ⟨dg, 0, none⟩), .int .i64 1] 55, blk dg [.bool true, .slice KA Km Kc, .slice VA Vn Vc, .slice CA 0 Cc, .int .u32 0] 109, alF pa 9 D (⟨iota 9, [], [], []⟩ : AlS), dkF g ⟨sv, .slice none 0 0, S, []⟩]) mE)) rfl rfl rfl rfl rfl kR uD (fun q hq => ?_))
 obtain ⟨A, c⟩ := q
 dsimp only
 refine zbJ (l := [own 0 26 1 (.slice A 1 c) (IE .u32) ([1] : List Int)]) sE ?_
 dsimp only [List.cons_append, List.nil_append]
 (repeat' (first | (refine gH ?_; try intro _) | (refine g_mv rfl ?_; refine cb (fun w hk => zcS t4 (.pointer none) 0 w (hk.rO (φ := blk t4 [.pointer none, .int .i64 0] 55) mE)) ?_) | (refine gS ?_ ?_ <;> intro _) | fail))
 rename_i g3
 (repeat' (first | (refine gH ?_; try intro _) | (refine g_mv rfl ?_; refine cb (fun w hk => zdm (zan rfl) (zih A (some ⟨g3, 0, none⟩) 1 c 1 1 [1] [1] w rfl rfl (by decide) (Ch.zoF hk (h := mE)) (zcI (hk.pO (blk g3 [.int .u32 1] 26) mE) rfl))) ?_) | (refine gS ?_ ?_ <;> intro _) | fail))
 all_goals (refine zad hT rfl rfl (.tmp rfl .nil) (fun w' hk => ?_); exact ⟨zcW (by simp [zed]), hk.toBelow⟩)
end Go.Proofs.YtaghmffgoomebaaGreat.St
