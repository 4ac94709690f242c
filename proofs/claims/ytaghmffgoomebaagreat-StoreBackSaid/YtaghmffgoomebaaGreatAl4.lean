/- Blocks that are free: Give, Take. Blocks that are free: Take, Drop. free.List: New. Alloc: what there is, plain. Alloc: New, Len, Free, Late, Count, Held. Alloc: Take, Hold, Drop, Adopt. -/
import Derived.Test.YtaghmffgoomebaaGreatFr3
import Derived.Test.YtaghmffgoomebaaGreatHp2
set_option linter.unusedVariables false
set_option linter.unusedSimpArgs false
namespace Go.Proofs.YtaghmffgoomebaaGreat.Hp
open Go.RowKit Mem Gx
set_option maxRecDepth 100000
set_option maxHeartbeats 1000000
def ins (b : Int) : List Int → List Int
 | [] => [b]
 | x :: r => if x < b then x :: ins b r else b :: x :: r
theorem zdE (b : Int) : ∀ S : List Int, (ins b S).Perm (b :: S)
 | [] => List.Perm.refl _
 | x :: r => by
   unfold ins
   split
   ·exact ((zdE b r).cons x).trans (List.Perm.swap b x r)
   ·exact List.Perm.refl _
theorem zfy (b : Int) : ∀ S : List Int, S.Pairwise (· < ·) → b ∉ S → (ins b S).Pairwise (· < ·)
 | [], _, _ => List.pairwise_singleton _ _
 | x :: r, h, hb => by
   obtain ⟨h1, h2⟩ := List.pairwise_cons.1 h
   unfold ins
   split
   ·rename_i hx
    refine List.pairwise_cons.2 ⟨fun y hy => ?_, zfy b r h2 fun h => hb (.tail _ h)⟩
    rcases List.mem_cons.1 ((zdE b r).mem_iff.1 hy) with e | e
    ·omega
    ·exact h1 y e
   ·rename_i hx
    have hxb : b < x := by
     have : b ≠ x := fun e => hb (by rw [e]; exact .head _)
     omega
    exact List.pairwise_cons.2 ⟨fun y hy => by
     rcases List.mem_cons.1 hy with e | e
     ·omega
     ·have := h1 y e; omega, h⟩
def giveP (b : Int) (S : List Int) : List Int × Bool := if b = 0 ∨ b ∈ S then (S, false) else (ins b S, true)
theorem zlV {b : Int} {S : List Int} (h : b = 0 ∨ b ∈ S) : giveP b S = (S, false) := if_pos h
theorem zgt {b : Int} {S : List Int} (h : ¬ (b = 0 ∨ b ∈ S)) : giveP b S = (ins b S, true) := if_neg h
def takeP : List Int → List Int × Int × Bool
 | [] => ([], 0, false)
 | x :: r => (r, x, true)
theorem FrOk.add {mo : Option Nat} {v v1 : Value} {L L1 K : List Int} {S : List Int} {b : Int} {r : Nat} (h : FrOk ⟨mo, v, L, K⟩ S) (hb : b ∉ S) (hl : S.length < 10000) (hp : L1.Perm (L ++ [b])) (hh : HeapN (fun x y : Int => x < y) L1 L1.length) : FrOk ⟨some r, v1, L1, K ++ [b]⟩ (ins b S) where
 l := hp.trans ((List.perm_append_comm.trans (h.l.cons b)).trans (zdE b S).symm)
 k := (List.perm_append_comm.trans (h.k.cons b)).trans (zdE b S).symm
 sorted := zfy b S h.sorted hb
 heap := hh
 nil e := by cases e
 len := by rw [(zdE b S).length_eq]; show S.length + 1 ≤ 10000; omega
theorem FrOk.least {s : FrS} {S' : List Int} {x x' : Int} (h : FrOk s (x :: S')) (hx : s.L[0]? = some x') : x' = x := by
 have h1 : ∀ z, z ∈ s.L → ¬ z < x' := fun z hz => by
  obtain ⟨k, hk⟩ := List.getElem?_of_mem hz
  exact h.heap.root zoP (Nat.le_refl _) hx k (List.getElem?_eq_some_iff.1 hk).1 z hk
 have h2 := h1 x (h.l.mem_iff.2 (.head _))
 have h3 : x' ∈ x :: S' := h.l.mem_iff.1 (List.mem_of_getElem? hx)
 rcases List.mem_cons.1 h3 with e | e
 ·exact e
 ·have := (List.pairwise_cons.1 h.sorted).1 x' e
  omega
theorem FrOk.less {s : FrS} {mo : Option Nat} {v1 : Value} {L1 K1 S S' : List Int} {x : Int} (h : FrOk s S) (hmo : mo ≠ none) (hS : (x :: S').Perm S) (hs : S'.Pairwise (· < ·)) (hp : (L1 ++ [x]).Perm s.L) (hk : (x :: K1).Perm s.K) (hh : HeapN (fun x y : Int => x < y) L1 L1.length) : FrOk ⟨mo, v1, L1, K1⟩ S' where
 l := ((List.perm_append_comm.symm.trans (hp.trans (h.l.trans hS.symm))) : (x :: L1).Perm (x :: S')).cons_inv
 k := (hk.trans (h.k.trans hS.symm)).cons_inv
 sorted := hs
 heap := hh
 nil e := absurd e hmo
 len := by have := hS.length_eq; have := h.len; simp at *; omega
theorem zls (g : Nat) (s : FrS) (S : List Int) (b : Int) (w : World) (hs : FrOk s S) (hl : S.length < 10000) (h : Rd1 w (packF (frF g s))) :
 Calls Tryz.prog 72 [.pointer (some ⟨g, 0, none⟩), .int .u32 b].toArray w (RetM (packF (frF g s)) (fun r : FrS × Bool => FrOk r.1 (giveP b S).1 ∧ r.2 = (giveP b S).2) (fun r => .bool r.2) (fun r => packF (frF g r.1)) w) := by
 obtain ⟨mo, v, L, K⟩ := s
 have hLl : L.length = S.length := hs.l.length_eq
 have hKm : ∀ x, x ∈ K ↔ x ∈ S := fun x => hs.k.mem_iff
 by_cases hb : b = 0
 ·rw [zlV (.inl hb)]
  refine zab T _ (frF g ⟨mo, v, L, K⟩) [] Tryz.func72 rfl Tryz.ntmps72 rfl (Kn.startP h (fun b hb => (zbS g _ b).1 hb) (fun _ h => by cases h)) ?_
  (repeat' (first | (refine gH ?_; try intro _) | (refine gS ?_ ?_ <;> intro _) | fail))
  refine zad hT rfl rfl (.tmp rfl .nil) (fun w' hk => ?_)
  exact RetM.mkP (ll := fun r : FrS × Bool => frF g r.1) (⟨mo, v, L, K⟩, false) ⟨hs, rfl⟩ rfl hk (fun b hb => (zbS g _ b).2 hb) sA
 ·cases mo with
  | none =>
    have hS0 : S = [] := hs.nil rfl
    subst hS0
    obtain rfl : L = [] := by simpa using hLl
    have hK0 : K = [] := by have := hs.k.length_eq; simpa using this
    subst hK0
    rw [zgt (by simp [hb])]
    refine zab T _ (frF g ⟨none, v, [], []⟩) [] Tryz.func72 rfl Tryz.ntmps72 rfl (Kn.startP h (fun b hb => (zbS g _ b).1 hb) (fun _ h => by cases h)) ?_
    change GK _ _ _ [packF (frL g [.map none] 151 v []), mpo none []] _
    refine zbM sE ?_
    (repeat' (first | (refine gH ?_; try intro _) | (refine gS ?_ ?_ <;> intro _) | fail))
    refine g_yd rfl rfl (Ys.yd (zfI rfl rfl rfl Tryz.underlying79 Tryz.underlying26 zo3)) ?_
    (repeat' (first | (refine gH ?_; try intro _) | (refine gS ?_ ?_ <;> intro _) | fail))
    refine g_yd rfl rfl (Ys.yd (zcQ hT rfl rfl rfl Tryz.underlying79)) ?_
    (repeat' (first | (refine gH ?_; try intro _) | (refine gS ?_ ?_ <;> intro _) | fail))
    refine g_mv rfl (zj0 rfl .u32 rfl (fun r => ?_))
    (repeat' (first | (refine gH ?_; try intro _) | (refine gS ?_ ?_ <;> intro _) | fail))
    refine g_mv rfl (zea rfl rfl rfl rfl rfl Tryz.underlying79 Tryz.underlying26 (by first | ((repeat (first | with_reducible exact Upd.here _ | with_reducible apply Upd.there)); done) | ((repeat (first | exact Upd.here _ | apply Upd.there)); done) | fail) ?_)
    (repeat' (first | (refine gH ?_; try intro _) | (refine gS ?_ ?_ <;> intro _) | fail))
    refine g_yd rfl rfl (Ys.yd (zbx rfl rfl kR)) ?_
    (repeat' (first | (refine gH ?_; try intro _) | (refine gS ?_ ?_ <;> intro _) | fail))
    refine g_yd rfl rfl (Ys.yd (zbx rfl rfl kR)) ?_
    refine zcD (frL g [.map (some r)] 151 v []) [mp r .u32 (mset b one [])] sA ?_
    refine g_mv rfl (zax (φ := packF (frL g [.map (some r)] 151 v [])) (ψ := fun q : Value × List Int => packF (frL g [.map (some r)] 151 q.1 q.2)) (fun w hk => zhp (frHO g [.map (some r)] 151) v [] b w (hk.rO (φ := packF (frL g [.map (some r)] 151 v [])) mE) trivial (by decide) (fun k h0 hk => absurd hk (Nat.not_lt_zero _))) rfl rfl rfl rfl rfl kR uD (fun q hI => ?_))
    obtain ⟨v1, L1⟩ := q
    obtain ⟨hp, hh⟩ := hI
    (repeat' (first | (refine gH ?_; try intro _) | (refine gS ?_ ?_ <;> intro _) | fail))
    refine zad hT rfl rfl (.tmp rfl .nil) (fun w' hk => ?_)
    exact RetM.mkP (ll := fun r : FrS × Bool => frF g r.1) (⟨some r, v1, L1, [b]⟩, true) ⟨hs.add (v := v) (by simp) hl hp hh, rfl⟩ rfl hk (fun b hb => (zbS g _ b).2 hb) (sA : SelAll [packF (frL g [.map (some r)] 151 v1 L1), mp r .u32 (mset b one [])] _)
  | some r =>
    by_cases hbK : b ∈ K
    ·rw [zlV (.inr ((hKm b).1 hbK))]
     refine zab T _ (frF g ⟨some r, v, L, K⟩) [] Tryz.func72 rfl Tryz.ntmps72 rfl (Kn.startP h (fun b hb => (zbS g _ b).1 hb) (fun _ h => by cases h)) ?_
     change GK _ _ _ [packF (frL g [.map (some r)] 151 v L), mp r .u32 (kv K)] _
     refine zbM sE ?_
     (repeat' (first | (refine gH ?_; try intro _) | (refine gS ?_ ?_ <;> intro _) | fail))
     refine g_yd rfl rfl ((zgL (S := [mp r .u32 (kv K)]) rfl rfl rfl Tryz.underlying79 Tryz.underlying26 zo3 mE).ydS sF) ?_
     refine zaK 13 (.int .i64 1) rfl (zlO.trans (by rw [if_pos hbK])) ?_
     (repeat' (first | (refine gH ?_; try intro _) | (refine gS ?_ ?_ <;> intro _) | fail))
     refine zbv (frL g [.map (some r)] 151 v L) [mp r .u32 (kv K)] sA ?_
     refine zad hT rfl rfl (.tmp rfl .nil) (fun w' hk => ?_)
     exact RetM.mkP (ll := fun r : FrS × Bool => frF g r.1) (⟨some r, v, L, K⟩, false) ⟨hs, rfl⟩ rfl hk (fun b hb => (zbS g _ b).2 hb) (sA : SelAll [packF (frL g [.map (some r)] 151 v L), mp r .u32 (kv K)] _)
    ·have hbS : b ∉ S := fun h => hbK ((hKm b).2 h)
     rw [zgt (by simp [hb, hbS])]
     refine zab T _ (frF g ⟨some r, v, L, K⟩) [] Tryz.func72 rfl Tryz.ntmps72 rfl (Kn.startP h (fun b hb => (zbS g _ b).1 hb) (fun _ h => by cases h)) ?_
     change GK _ _ _ [packF (frL g [.map (some r)] 151 v L), mp r .u32 (kv K)] _
     refine zbM sE ?_
     (repeat' (first | (refine gH ?_; try intro _) | (refine gS ?_ ?_ <;> intro _) | fail))
     refine g_yd rfl rfl ((zgL (S := [mp r .u32 (kv K)]) rfl rfl rfl Tryz.underlying79 Tryz.underlying26 zo3 mE).ydS sF) ?_
     refine zaK 13 (.int .i64 0) rfl (zlO.trans (by rw [if_neg hbK])) ?_
     (repeat' (first | (refine gH ?_; try intro _) | (refine gS ?_ ?_ <;> intro _) | fail))
     refine g_yd rfl rfl (Ys.yd (zcQ hT rfl rfl rfl Tryz.underlying79)) ?_
     (repeat' (first | (refine gH ?_; try intro _) | (refine gS ?_ ?_ <;> intro _) | fail))
     refine g_mv rfl (zea rfl rfl rfl rfl rfl Tryz.underlying79 Tryz.underlying26 (by first | ((repeat (first | with_reducible exact Upd.here _ | with_reducible apply Upd.there)); done) | ((repeat (first | exact Upd.here _ | apply Upd.there)); done) | fail) ?_)
     rw [kv_set hbK]
     (repeat' (first | (refine gH ?_; try intro _) | (refine gS ?_ ?_ <;> intro _) | fail))
     refine g_yd rfl rfl (Ys.yd (zbx rfl rfl kR)) ?_
     (repeat' (first | (refine gH ?_; try intro _) | (refine gS ?_ ?_ <;> intro _) | fail))
     refine g_yd rfl rfl (Ys.yd (zbx rfl rfl kR)) ?_
     refine zcD (frL g [.map (some r)] 151 v L) [mp r .u32 (kv (K ++ [b]))] sA ?_
     refine g_mv rfl (zax (φ := packF (frL g [.map (some r)] 151 v L)) (ψ := fun q : Value × List Int => packF (frL g [.map (some r)] 151 q.1 q.2)) (fun w hk => zhp (frHO g [.map (some r)] 151) v L b w (hk.rO (φ := packF (frL g [.map (some r)] 151 v L)) mE) trivial (by omega) hs.heap) rfl rfl rfl rfl rfl kR uD (fun q hI => ?_))
     obtain ⟨v1, L1⟩ := q
     obtain ⟨hp, hh⟩ := hI
     (repeat' (first | (refine gH ?_; try intro _) | (refine gS ?_ ?_ <;> intro _) | fail))
     refine zad hT rfl rfl (.tmp rfl .nil) (fun w' hk => ?_)
     exact RetM.mkP (ll := fun r : FrS × Bool => frF g r.1) (⟨some r, v1, L1, K ++ [b]⟩, true) ⟨hs.add (v := v) hbS hl hp hh, rfl⟩ rfl hk (fun b hb => (zbS g _ b).2 hb) (sA : SelAll [packF (frL g [.map (some r)] 151 v1 L1), mp r .u32 (kv (K ++ [b]))] _)
end Go.Proofs.YtaghmffgoomebaaGreat.Hp
namespace Go.Proofs.YtaghmffgoomebaaGreat.Hp
open Go.RowKit Mem Gx
set_option maxRecDepth 100000
set_option maxHeartbeats 1000000
theorem fr_v {g : Nat} {s : FrS} {w : World} (h : Rd1 w (packF (frF g s))) : ∃ A c, s.v = .slice A s.L.length c ∧ s.L.length ≤ c ∧ c ≤ maxLen ∧ (A = none → c = 0) ∧ Rd1 w (sl A 1 (IE .u32) s.L) := zcw ((h.unpack (.head _)).unpack (.tail _ (.head _)))
theorem zlm (g : Nat) (s : FrS) (S : List Int) (w : World) (hs : FrOk s S) (h : Rd1 w (packF (frF g s))) :
 Calls Tryz.prog 103 [.pointer (some ⟨g, 0, none⟩)].toArray w (RetM (packF (frF g s)) (fun r : FrS × Int × Bool => FrOk r.1 (takeP S).1 ∧ r.2 = (takeP S).2) (fun r => .tuple #[.int .u32 r.2.1, .bool r.2.2]) (fun r => packF (frF g r.1)) w) := by
 obtain ⟨A, c, hv, hc, hm, hA, hrd⟩ := fr_v h
 obtain ⟨mo, v, L, K⟩ := s
 replace hv : v = .slice A L.length c := hv
 subst hv
 have hLl : L.length = S.length := hs.l.length_eq
 have hS9 := hs.len
 cases S with
 | nil =>
   obtain rfl : L = [] := by simpa using hLl
   refine zab T _ (frF g ⟨mo, .slice A ([] : List Int).length c, [], K⟩) [] Tryz.func103 rfl Tryz.ntmps103 rfl (Kn.startP h (fun b hb => (zbS g _ b).1 hb) (fun _ h => by cases h)) ?_
   change GK _ _ _ [packF (frL g [.map mo] 151 (.slice A 0 c) []), mpo mo K] _
   refine zbM sE ?_
   (repeat' (first | (refine gH ?_; try intro _) | (refine gS ?_ ?_ <;> intro _) | fail))
   refine zbv (frL g [.map mo] 151 (.slice A 0 c) []) [mpo mo K] sA ?_
   refine zad hT rfl rfl (.tmp rfl (.tmp rfl .nil)) (fun w' hk => ?_)
   exact RetM.mkP (ll := fun r : FrS × Int × Bool => frF g r.1) (⟨mo, .slice A 0 c, [], K⟩, 0, false) ⟨hs, rfl⟩ rfl hk (fun b hb => (zbS g _ b).2 hb) (sA : SelAll [packF (frL g [.map mo] 151 (.slice A 0 c) []), mpo mo K] _)
 | cons x S' =>
   cases mo with
   | none => have := hs.nil rfl; cases this
   | some r =>
     have hL0 : 0 < L.length := by rw [hLl]; simp
     have hS8 : L.length ≤ 10000 := by rw [hLl]; exact hS9
     have hsrt := (List.pairwise_cons.1 hs.sorted).2
     refine zab T _ (frF g ⟨some r, .slice A L.length c, L, K⟩) [] Tryz.func103 rfl Tryz.ntmps103 rfl (Kn.startP h (fun b hb => (zbS g _ b).1 hb) (fun _ h => by cases h)) ?_
     change GK _ _ _ [packF (frL g [.map (some r)] 151 (.slice A L.length c) L), mp r .u32 (kv K)] _
     refine zbM sE ?_
     (repeat' (first | (refine gH ?_; try intro _) | (refine gS ?_ ?_ <;> intro _) | fail))
     refine g_yd rfl rfl (Ys.yd (zbx rfl rfl kR)) ?_
     refine zcD (frL g [.map (some r)] 151 (.slice A L.length c) L) [mp r .u32 (kv K)] sA ?_
     refine g_mv rfl (zax (φ := packF (frL g [.map (some r)] 151 (.slice A L.length c) L)) (ψ := fun q : Value × List Int × Int => packF (frL g [.map (some r)] 151 q.1 q.2.1)) (fun w hk => znL (frHO g [.map (some r)] 151) (.slice A L.length c) L w (hk.rO (φ := packF (frL g [.map (some r)] 151 (.slice A L.length c) L)) mE) trivial (by omega) hL0 hs.heap) rfl rfl rfl rfl rfl kR uD (fun q hI => ?_))
     obtain ⟨v1, L1, x'⟩ := q
     obtain ⟨hx0, hp, hh⟩ := hI
     obtain rfl : x' = x := hs.least hx0
     refine zaK 15 (.iface 26 (.int .u32 x')) rfl rfl ?_
     refine g_yd rfl rfl (Ys.yd (zdp rfl rfl kR)) ?_
     (repeat (refine gG ?_; try intro _))
     refine zbJ sE ?_
     (repeat (refine gG ?_; try intro _))
     have hxK : x' ∈ K := hs.k.mem_iff.2 (.head _)
     obtain ⟨K1, hK1, hK2⟩ := kv_del hxK
     refine g_mv rfl (zhg rfl rfl rfl rfl rfl Tryz.underlying79 Tryz.underlying26 (by first | ((repeat (first | with_reducible exact Upd.here _ | with_reducible apply Upd.there)); done) | ((repeat (first | exact Upd.here _ | apply Upd.there)); done) | fail) ?_)
     rw [hK1]
     (repeat (refine gG ?_; try intro _))
     refine zbv (frL g [.map (some r)] 151 v1 L1) [mp r .u32 (kv K1)] sA ?_
     refine zad hT rfl rfl (.tmp rfl (.tmp rfl .nil)) (fun w' hk => ?_)
     exact RetM.mkP (ll := fun r : FrS × Int × Bool => frF g r.1) (⟨some r, v1, L1, K1⟩, x', true) ⟨hs.less (by simp) (List.Perm.refl _) hsrt hp hK2 hh, rfl⟩ rfl hk (fun b hb => (zbS g _ b).2 hb) (sA : SelAll [packF (frL g [.map (some r)] 151 v1 L1), mp r .u32 (kv K1)] _)
end Go.Proofs.YtaghmffgoomebaaGreat.Hp
namespace Go.Proofs.YtaghmffgoomebaaGreat.Hp
open Go.RowKit Mem Gx
set_option maxRecDepth 100000
set_option maxHeartbeats 4000000
theorem zaO : Elt Tryz.prog 43 26 1 4 := Elt.mk' (z := .int .u32 0) Tryz.underlying43 kR rfl (by decide)
def iota (k : Nat) : List Int := (List.range k).map fun (i : Nat) => (i : Int) + 1
theorem zeS (k : Nat) : iota (k + 1) = iota k ++ [(k : Int) + 1] := by
 unfold iota
 rw [List.range_succ, List.map_append]
 rfl
theorem zdD {k : Nat} {x : Int} (h : x ∈ iota k) : 1 ≤ x ∧ x ≤ k := by
 unfold iota at h
 obtain ⟨i, hi, rfl⟩ := List.mem_map.1 h
 have := List.mem_range.1 hi
 omega
theorem zc0 (k : Nat) : (iota k).length = k := by simp [iota]
theorem zlK {b : Int} : ∀ {S : List Int}, (∀ x, x ∈ S → x < b) → ins b S = S ++ [b]
 | [], _ => rfl
 | x :: r, h => by
   unfold ins
   rw [if_pos (h x (.head _)), zlK fun y hy => h y (.tail _ hy)]
   rfl
theorem zlW (k : Nat) : giveP ((k : Int) + 1) (iota k) = (iota (k + 1), true) := by
 rw [zgt (by
  rintro (h | h)
  ·omega
  ·have := zdD h; omega), zlK (fun x hx => by have := zdD hx; omega), zeS]
theorem zdf : ∀ k, (iota k).Pairwise (· < ·)
 | 0 => .nil
 | k + 1 => by
   rw [zeS]
   refine List.pairwise_append.2 ⟨zdf k, List.pairwise_singleton _ _, fun a ha b hb => ?_⟩
   obtain rfl := m1 hb
   have := zdD ha
   omega
theorem zlQ {X : Cx} {f : Fr} {O R : List Fact} {ks : List KI} (ψ : Fact) (hp : ∀ w, ψ.p w) (hn : ∀ b, ¬ ψ.S b) (hg : GK X ks f (ψ :: O) R) : GK X ks f O R := .mk fun a w hr hk => hg.out a w hr (hk.addO ψ (hp w) hn)
theorem znz (n : Nat) (w : World) (hn : n ≤ 4096) : Calls Tryz.prog 46 [.int .i64 (n : Int)].toArray w (Ret (fun q : Nat × FrS => FrOk q.2 (iota n)) (fun q => .tuple #[.pointer (some ⟨q.1, 0, none⟩), .int .i64 0]) (fun q => [packF (frF q.1 q.2)]) w) := by
 refine zab T [] [] [] Tryz.func46 rfl Tryz.ntmps46 rfl (Kn.start _) ?_
 (repeat' (first | (refine gH ?_; try intro _) | (refine gS ?_ ?_ <;> intro _) | fail))
 rename_i g
 refine zbO 0 26 1 (IE .u32) ?_
 refine zbv (frL g [.map none] 151 (.slice none 0 0) []) [] sA ?_
 have h0 : FrOk ⟨none, .slice none 0 0, [], []⟩ (iota 0) := ⟨List.Perm.refl _, List.Perm.refl _, .nil, fun k h0 hk => absurd hk (Nat.not_lt_zero _), fun _ => rfl, Nat.zero_le _⟩
 refine zlQ (mpo none []) (fun _ => rfl) (fun b h => h) ?_
 refine zbv (frF g ⟨none, .slice none 0 0, [], []⟩) [] (sA : SelAll [packF (frL g [.map none] 151 (.slice none 0 0) []), mpo none []] _) ?_
 refine gL2 (fun (k : Nat) (s : FrS) => (k ≤ n ∧ FrOk s (iota k))) (fun k s => [(4, .pointer (some ⟨g, 0, none⟩)), (14, .int .i64 n), (15, .int .i64 k)]) (fun k s => [packF (frF g s)]) (fun k s => []) (fun k s => n - k) 0 ⟨none, .slice none 0 0, [], []⟩ ⟨Nat.zero_le _, h0⟩ ?_
 rintro k s hI
 obtain ⟨hk1, hs⟩ := hI
 by_cases hlt : k < n
 ·(repeat (refine gG ?_; try intro _))
  refine zaJ rfl rfl (zaH _) (fun _ => ?_) (fun h => absurd (by omega) h)
  (repeat (refine gG ?_; try intro _))
  refine g_mv rfl (zax (φ := packF (frF g s)) (ψ := fun q : FrS × Bool => packF (frF g q.1)) (fun w hk => zls g s (iota k) ((k : Int) + 1) w hs (by rw [zc0]; omega) (hk.rO (φ := packF (frF g s)) mE)) rfl rfl rfl rfl rfl kR uD (fun q hI => ?_))
  obtain ⟨s1, b1⟩ := q
  obtain ⟨h1, h2⟩ := hI
  rw [zlW] at h1 h2
  (repeat (refine gG ?_; try intro _))
  refine zag rfl (k + 1, s1) ⟨by omega, h1⟩ (by dsimp only; omega) fS sA sS
 ·obtain rfl : k = n := by omega
  (repeat (refine gG ?_; try intro _))
  refine zaJ rfl rfl (zaH _) (fun h => absurd h (by omega)) (fun _ => ?_)
  (repeat (refine gG ?_; try intro _))
  refine zad hT rfl rfl (.tmp rfl (.tmp rfl .nil)) (fun w' hk => ?_)
  exact Ret.mk (g, s) hs rfl hk sA
end Go.Proofs.YtaghmffgoomebaaGreat.Hp
namespace Go.Proofs.YtaghmffgoomebaaGreat.Al
open Go.RowKit Mem Gx KyU Dd Rf Hp
set_option maxRecDepth 100000
structure AlS where
 S : List Int
 l : List Int
 U : List Int
 L : List Int
structure AlP (n : Nat) (s : AlS) : Prop where
 rng : ∀ b, (b ∈ s.S ∨ b ∈ s.l ∨ b ∈ s.L) ↔ (1 ≤ b ∧ b ≤ n)
 fl : ∀ b, b ∈ s.S → b ∉ s.l
 fL : ∀ b, b ∈ s.S → b ∉ s.L
 lL : ∀ b, b ∈ s.l → b ∉ s.L
 sorted : s.S.Pairwise (· < ·)
 nd : s.L.Nodup
 sub : ∀ b, b ∈ s.L → b ∈ s.U
def uV (U : List Int) (k : Int) : Option Value := if k ∈ U then some (.int .i64 1) else none
structure AlD where
 f : Nat
 fs : FrS
 T : TabS
 rs : Nat
 M : List (Int × Value)
 v : Value
structure AlI (n : Nat) (D : AlD) (s : AlS) : Prop where
 p : AlP n s
 fr : FrOk D.fs s.S
 rf : RfI D.T s.l
 u : MapIs D.M (uV s.U)
abbrev alX (n : Nat) (D : AlD) : XA := ⟨.pointer (some ⟨D.f, 0, none⟩), .map (some D.rs), D.v, .int .i64 (n : Int)⟩
def alL (a n : Nat) (D : AlD) (s : AlS) : List Fact := [tbF2 a (alX n D) D.T, packF (frF D.f D.fs), mpk D.rs (Value.int .u32) D.M, own 0 26 1 D.v (IE .u32) s.L]
abbrev alF (a n : Nat) (D : AlD) (s : AlS) : Fact := packF (alL a n D s)
theorem AlP.len {n : Nat} {s : AlS} (h : AlP n s) : s.S.length + (setP s.l).length + s.L.length = n := by
 have nS : s.S.Nodup := h.sorted.imp fun h => by omega
 have nl : (setP s.l).Nodup := zdy (zgT s.l)
 have nd : (s.S ++ (setP s.l ++ s.L)).Nodup := by
  rw [List.nodup_append, List.nodup_append]
  refine ⟨nS, ⟨nl, h.nd, fun a ha b hb e => ?_⟩, fun a ha b hb e => ?_⟩
  ·subst e; exact h.lL a (zej.1 ha) hb
  ·subst e
   rcases List.mem_append.1 hb with hb | hb
   ·exact h.fl a ha (zej.1 hb)
   ·exact h.fL a ha hb
 have hp : (s.S ++ (setP s.l ++ s.L)).Perm (iota n) := (List.perm_ext_iff_of_nodup nd ((zdf n).imp fun h => by omega)).2 fun b => by
  rw [List.mem_append, List.mem_append, zej, h.rng b]
  refine ⟨fun hb => ?_, fun hb => zdD hb⟩
  unfold iota
  rw [List.mem_map]
  exact ⟨(b - 1).toNat, by rw [List.mem_range]; omega, by omega⟩
 have := hp.length_eq
 rw [zc0, List.length_append, List.length_append] at this
 omega
theorem AlP.pos {n : Nat} {s : AlS} (h : AlP n s) {b : Int} (hb : b ∈ s.S ∨ b ∈ s.l ∨ b ∈ s.L) : 1 ≤ b ∧ b ≤ n := (h.rng b).1 hb
theorem zp9 (n : Nat) : AlP n ⟨iota n, [], [], []⟩ := ⟨fun b => by
 constructor
 ·rintro (h | h | h)
  ·exact zdD h
  ·cases h
  ·cases h
 ·intro h
  refine .inl ?_
  show b ∈ iota n
  unfold iota
  rw [List.mem_map]
  exact ⟨(b - 1).toNat, by rw [List.mem_range]; omega, by omega⟩, fun _ _ h => (by cases h), fun _ _ h => (by cases h), fun _ h => (by cases h), zdf n, List.nodup_nil, fun _ h => (by cases h)⟩
theorem AlP.take {n : Nat} {S' l U L : List Int} {x : Int} (h : AlP n ⟨x :: S', l, U, L⟩) : AlP n ⟨S', l ++ [x], U, L⟩ := by
 have hx : x ∉ S' := fun hx => by have := (List.pairwise_cons.1 h.sorted).1 x hx; omega
 refine ⟨fun b => ?_, fun b hb hb2 => ?_, fun b hb => h.fL b (.tail _ hb), fun b hb => ?_, (List.pairwise_cons.1 h.sorted).2, h.nd, h.sub⟩
 ·rw [← h.rng b, List.mem_append, List.mem_singleton, List.mem_cons]
  constructor
  ·rintro (h1 | (h1 | h1) | h1)
   ·exact .inl (.inr h1)
   ·exact .inr (.inl h1)
   ·exact .inl (.inl h1)
   ·exact .inr (.inr h1)
  ·rintro ((h1 | h1) | h1 | h1)
   ·exact .inr (.inl (.inr h1))
   ·exact .inl h1
   ·exact .inr (.inl (.inl h1))
   ·exact .inr (.inr h1)
 ·rcases List.mem_append.1 hb2 with hb2 | hb2
  ·exact h.fl b (.tail _ hb) hb2
  ·obtain rfl := m1 hb2; exact hx hb
 ·rcases List.mem_append.1 hb with hb | hb
  ·exact h.lL b hb
  ·obtain rfl := m1 hb; exact h.fL b (.head _)
theorem AlP.hold {n : Nat} {S l U L : List Int} {b : Int} (h : AlP n ⟨S, l, U, L⟩) (hb : b ∈ l) : AlP n ⟨S, l ++ [b], U, L⟩ := by
 have e : ∀ x, x ∈ l ++ [b] ↔ x ∈ l := fun x => by
  rw [List.mem_append, List.mem_singleton]
  exact ⟨fun h => h.elim id fun e => e ▸ hb, .inl⟩
 exact ⟨fun x => by rw [← h.rng x]; show (x ∈ S ∨ x ∈ l ++ [b] ∨ x ∈ L) ↔ _; rw [e], fun x hx h2 => h.fl x hx ((e x).1 h2), h.fL, fun x hx => h.lL x ((e x).1 hx), h.sorted, h.nd, h.sub⟩
end Go.Proofs.YtaghmffgoomebaaGreat.Al
namespace Go.Proofs.YtaghmffgoomebaaGreat.Al
open Go.RowKit Mem Gx KyU Dd Rf Hp
set_option maxRecDepth 100000
set_option maxHeartbeats 1000000
structure RdA (a n f : Nat) (fs : FrS) (T1 : TabS) (rs : Nat) (M : List (Int × Value)) (v : Value) (L : List Int) (w : World) : Prop where
 b : Rd1 w (blk a [.pointer (some ⟨f, 0, none⟩), .map T1.r, .int .i64 T1.sum, .map (some rs), v, .int .i64 (n : Int)] 100)
 t : Rd1 w (tbF2 a (⟨.pointer (some ⟨f, 0, none⟩), .map (some rs), v, .int .i64 (n : Int)⟩ : XA) T1)
 f : Rd1 w (packF (frF f fs))
 m : Rd1 w (mpk rs (Value.int .u32) M)
 o : Rd1 w (own 0 26 1 v (IE .u32) L)
theorem rda {a n : Nat} {f : Nat} {fs : FrS} {T1 : TabS} {rs : Nat} {M : List (Int × Value)} {v : Value} {s : AlS} {w : World} (h : Rd1 w (alF a n ⟨f, fs, T1, rs, M, v⟩ s)) : RdA a n f fs T1 rs M v s.L w := by
 have ht : Rd1 w (tbF2 a (⟨.pointer (some ⟨f, 0, none⟩), .map (some rs), v, .int .i64 (n : Int)⟩ : XA) T1) := h.unpack (.head _)
 exact ⟨ht.unpack (.head _), ht, h.unpack (.tail _ (.head _)), h.unpack (.tail _ (.tail _ (.head _))), h.unpack (.tail _ (.tail _ (.tail _ (.head _))))⟩
theorem zff (a n : Nat) (D : AlD) (s : AlS) (w : World) (hI : AlI n D s) (h : Rd1 w (alF a n D s)) :
 Calls Tryz.prog 17 [.pointer (some ⟨a, 0, none⟩)].toArray w fun e w' => e = .returned (.int .i64 (s.S.length : Int)) ∧ Below w.heap.size w w' := by
 have hl := hI.fr.l.length_eq
 have h9 := hI.fr.len
 obtain ⟨f, fs, T1, rs, M, v⟩ := D
 have hr := rda h
 replace hl : fs.L.length = s.S.length := hl
 rw [← hl]
 refine zab T [] [] [blk a [.pointer (some ⟨f, 0, none⟩), .map T1.r, .int .i64 T1.sum, .map (some rs), v, .int .i64 (n : Int)] 100, packF (frF f fs)] Tryz.func17 rfl Tryz.ntmps17 rfl (Rds.cons hr.b (.cons hr.f .nil)).kn ?_
 refine za9 (g := a) mE ?_
 (repeat (refine gG ?_; try intro _))
 refine cB (fun w hk => znA f fs w (hk.rR (φ := packF (frF f fs)) mE) (by omega)) ?_
 (repeat (refine gG ?_; try intro _))
 refine zad hT rfl rfl (.tmp rfl .nil) (fun w' hk => ?_)
 exact ⟨rfl, hk.toBelow⟩
theorem zon (n : Nat) (w : World) (hn : n ≤ 4096) : Calls Tryz.prog 25 [.int .i64 (n : Int)].toArray w (Ret (fun q : Nat × AlD => AlI n q.2 ⟨iota n, [], [], []⟩) (fun q => .tuple #[.pointer (some ⟨q.1, 0, none⟩), .int .i64 0]) (fun q => [alF q.1 n q.2 ⟨iota n, [], [], []⟩]) w) := by
 refine zab T [] [] [] Tryz.func25 rfl Tryz.ntmps25 rfl (Kn.start _) ?_
 (repeat (refine gG ?_; try intro _))
 refine cR (fun w hk => znz n w hn) (fun q hq => ?_)
 obtain ⟨f, fs⟩ := q
 dsimp only at hq ⊢
 (repeat' (first | (refine gH ?_; try intro _) | (refine gS ?_ ?_ <;> intro _) | fail))
 refine g_mv rfl (zdd rfl (Value.int .u32) rfl (fun rs => ?_))
 (repeat (refine gG ?_; try intro _))
 rename_i a
 refine zbO 0 26 1 (IE .u32) ?_
 refine zlQ (moF none []) (fun w => rfl) (fun b h => h) ?_
 obtain ⟨v, hv⟩ : ∃ v, v = Value.slice none 0 0 := ⟨_, rfl⟩
 refine zbv (tbL2 a (⟨.pointer (some ⟨f, 0, none⟩), .map (some rs), .slice none 0 0, .int .i64 (n : Int)⟩ : XA) ⟨none, [], 0⟩) [packF (frF f fs), mpk rs (Value.int .u32) [], own 0 26 1 (.slice none 0 0) (IE .u32) []] sA ?_
 refine zbv (alL a n ⟨f, fs, ⟨none, [], 0⟩, rs, [], .slice none 0 0⟩ ⟨iota n, [], [], []⟩) [] sA ?_
 refine zad hT rfl rfl (.tmp rfl (.tmp rfl .nil)) (fun w' hk => ?_)
 exact Ret.mk ((a, ⟨f, fs, ⟨none, [], 0⟩, rs, [], .slice none 0 0⟩) : Nat × AlD) ⟨zp9 n, hq, ⟨fun _ => rfl, rfl, MapIs.nil.congr fun k => by simp [cntV], by simp⟩, MapIs.nil.congr fun k => by simp [uV]⟩ rfl hk sA
end Go.Proofs.YtaghmffgoomebaaGreat.Al
namespace Go.Proofs.YtaghmffgoomebaaGreat.Al
open Go.RowKit Mem Gx KyU Dd Rf Hp
set_option maxRecDepth 100000
set_option maxHeartbeats 2000000
def takeA (s : AlS) : AlS × Int × Int := match s.S with
 | [] => (s, 0, 30)
 | x :: S' => (⟨S', s.l ++ [x], s.U, s.L⟩, x, 0)
theorem zhD (a n : Nat) (D : AlD) (s : AlS) (w : World) (hl9 : s.l.length < 1000) (hI : AlI n D s) (h : Rd1 w (alF a n D s)) :
 Calls Tryz.prog 71 [.pointer (some ⟨a, 0, none⟩)].toArray w (RetM (alF a n D s) (fun r : AlD × AlS × Int × Int => AlI n r.1 r.2.1 ∧ r.2 = takeA s) (fun r => .tuple #[.int .u32 r.2.2.1, .int .i64 r.2.2.2]) (fun r => alF a n r.1 r.2.1) w) := by
 obtain ⟨f, fs, T1, rs, M, v⟩ := D
 obtain ⟨S, l, U, L⟩ := s
 obtain ⟨hp, hf, hr, hu⟩ := hI
 dsimp only at hp hf hr hu hl9
 refine zab T (finE (alF a n ⟨f, fs, T1, rs, M, v⟩ ⟨S, l, U, L⟩) w) [tbF2 a (⟨.pointer (some ⟨f, 0, none⟩), .map (some rs), v, .int .i64 (n : Int)⟩ : XA) T1, packF (frF f fs), mpk rs (Value.int .u32) M, own 0 26 1 v (IE .u32) L] [] Tryz.func71 rfl Tryz.ntmps71 rfl (Kn.startP h (fun b hb => (zaB h.2 b).2 hb) (fun _ h => by cases h)) ?_
 rw [show tbF2 a (⟨.pointer (some ⟨f, 0, none⟩), .map (some rs), v, .int .i64 (n : Int)⟩ : XA) T1 = packF [blk a [.pointer (some ⟨f, 0, none⟩), .map T1.r, .int .i64 T1.sum, .map (some rs), v, .int .i64 (n : Int)] 100, moF T1.r T1.M] from rfl]
 refine zbM (l := [blk a [.pointer (some ⟨f, 0, none⟩), .map T1.r, .int .i64 T1.sum, .map (some rs), v, .int .i64 (n : Int)] 100, moF T1.r T1.M]) sE ?_
 (repeat (refine gG ?_; try intro _))
 refine g_mv rfl (zax (φ := packF (frF f fs)) (ψ := fun r : FrS × Int × Bool => packF (frF f r.1)) (fun w1 hk => by exact zlm f fs S w1 hf (hk.rO (φ := packF (frF f fs)) mE)) rfl rfl rfl rfl rfl kR uD (fun r hr2 => ?_))
 obtain ⟨fs', b, ok⟩ := r
 obtain ⟨hf', hv⟩ := hr2
 dsimp only at hf' hv ⊢
 cases S with
 | nil =>
   obtain ⟨rfl, rfl⟩ : b = 0 ∧ ok = false := by cases hv; exact ⟨rfl, rfl⟩
   (repeat (refine gG ?_; try intro _))
   refine zbv (tbL2 a (⟨.pointer (some ⟨f, 0, none⟩), .map (some rs), v, .int .i64 (n : Int)⟩ : XA) T1) [packF (frF f fs'), mpk rs (Value.int .u32) M, own 0 26 1 v (IE .u32) L] sA ?_
   refine zad hT rfl rfl (.tmp rfl (.tmp rfl .nil)) (fun w' hk => ?_)
   exact RetM.mkP (ll := fun r : AlD × AlS × Int × Int => alL a n r.1 r.2.1) ((⟨f, fs', T1, rs, M, v⟩, ⟨[], l, U, L⟩, 0, 30) : AlD × AlS × Int × Int) ⟨⟨hp, hf', hr, hu⟩, rfl⟩ rfl hk (fun b hb => (zaB h.2 b).1 hb) (show SelAll [tbF2 a (⟨.pointer (some ⟨f, 0, none⟩), .map (some rs), v, .int .i64 (n : Int)⟩ : XA) T1, packF (frF f fs'), mpk rs (Value.int .u32) M, own 0 26 1 v (IE .u32) L] _ from sA)
 | cons x S' =>
   obtain ⟨rfl, rfl⟩ : b = x ∧ ok = true := by cases hv; exact ⟨rfl, rfl⟩
   have hx := hp.pos (b := b) (.inl (.head _))
   (repeat (refine gG ?_; try intro _))
   refine zcD (tbL2 a (⟨.pointer (some ⟨f, 0, none⟩), .map (some rs), v, .int .i64 (n : Int)⟩ : XA) T1) [packF (frF f fs'), mpk rs (Value.int .u32) M, own 0 26 1 v (IE .u32) L] sA ?_
   refine g_mv rfl (zax (φ := tbF2 a (⟨.pointer (some ⟨f, 0, none⟩), .map (some rs), v, .int .i64 (n : Int)⟩ : XA) T1) (ψ := fun T' : TabS => tbF2 a (⟨.pointer (some ⟨f, 0, none⟩), .map (some rs), v, .int .i64 (n : Int)⟩ : XA) T') (fun w1 hk => by exact zlM a (⟨.pointer (some ⟨f, 0, none⟩), .map (some rs), v, .int .i64 (n : Int)⟩ : XA) T1 l b w1 (by omega) hl9 hr (hk.rO (φ := tbF2 a (⟨.pointer (some ⟨f, 0, none⟩), .map (some rs), v, .int .i64 (n : Int)⟩ : XA) T1) mE)) rfl rfl rfl rfl rfl kR uD (fun T' hT' => ?_))
   (repeat (refine gG ?_; try intro _))
   refine zad hT rfl rfl (.tmp rfl (.tmp rfl .nil)) (fun w' hk => ?_)
   exact RetM.mkP (ll := fun r : AlD × AlS × Int × Int => alL a n r.1 r.2.1) ((⟨f, fs', T', rs, M, v⟩, ⟨S', l ++ [b], U, L⟩, b, 0) : AlD × AlS × Int × Int) ⟨⟨hp.take, hf', hT', hu⟩, rfl⟩ rfl hk (fun b hb => (zaB h.2 b).1 hb) (show SelAll [tbF2 a (⟨.pointer (some ⟨f, 0, none⟩), .map (some rs), v, .int .i64 (n : Int)⟩ : XA) T', packF (frF f fs'), mpk rs (Value.int .u32) M, own 0 26 1 v (IE .u32) L] _ from sA)
theorem lk_u {M : List (Int × Value)} {U : List Int} (hu : MapIs M (uV U)) (b : Int) : ((lkG b M 0).map (·.2)).getD (.int .i64 0) = .int .i64 (if b ∈ U then 1 else 0) := by
 have h1 := hu.get b
 unfold mg at h1
 rw [h1]
 unfold uV
 split <;> rfl
end Go.Proofs.YtaghmffgoomebaaGreat.Al
