/- container/heap: Push, Pop, Remove, Fix. Rows of blocks that are free, as heaps: their methods. Rows of blocks that are free: Push, Pop; they are heaps. Blocks that are free: the list's state; Len, Has, Give, Take. -/
import Derived.Test.YtaghmffgoomebaaGreatHp2
import Derived.Test.YtaghmffgoomebaaGreatGxQ
import Derived.Test.YtaghmffgoomebaaGreatGxN
set_option linter.unusedVariables false
set_option linter.unusedSimpArgs false
namespace Go.Proofs.YtaghmffgoomebaaGreat.Hp
open Go.RowKit Mem Gx
set_option maxRecDepth 100000
set_option maxHeartbeats 1000000
variable {σ α : Type} (H : HO σ α)
theorem zkw {L : List α} {n : Nat} {x : α} (hx : L[n]? = some x) (hn : L.length = n + 1) : L = L.take n ++ [x] := by
 obtain ⟨h1, h2⟩ := List.getElem?_eq_some_iff.1 hx
 have := List.take_succ_eq_append_getElem h1
 rw [h2] at this
 rw [← this, List.take_of_length_le (by omega)]
theorem zlN {lt : α → α → Prop} {L : List α} {n : Nat} (h : HeapN lt L n) (hn : n ≤ L.length) : HeapN lt (L.take n) (L.take n).length := by
 rw [List.length_take, Nat.min_eq_left hn]
 exact h.of_eq fun k hk => List.getElem?_take_of_lt hk
theorem zhp (s : σ) (L : List α) (x : α) (w : World) (h : Rd1 w (H.F s L)) (hok : H.ok (L ++ [x])) (hL : L.length < 100000) (hh : HeapN H.lt L L.length) :
 Calls Tryz.prog 105 [H.iv, H.xv x].toArray w (RetM (H.F s L) (fun r : σ × List α => r.2.Perm (L ++ [x]) ∧ HeapN H.lt r.2 r.2.length) (fun _ => .tuple #[]) (fun r => H.F r.1 r.2) w) := by
 obtain ⟨E, hE⟩ := H.fin s L w h.1
 have hl1 : (L ++ [x]).length = L.length + 1 := by simp
 have hu : UInv H.lt (L ++ [x]) (L.length + 1) L.length := ⟨fun k h0 hk hne => (hh.of_eq (L' := L ++ [x]) fun j hj => List.getElem?_append_left hj) k h0 (by omega), fun h0 k hk0 hk hkp => by omega⟩
 refine zab T E [H.F s L] [] Tryz.func105 rfl Tryz.ntmps105 rfl (Kn.startM h (fun b hb => (hE b).1 hb) (fun _ h => by cases h)) ?_
 (repeat (refine gG ?_; try intro _))
 refine g_mv rfl (zbH rfl rfl rfl rfl rfl (fun w hk => H.push s L w x (hk.rO mE) hok (by omega)) uD (fun r _ => ?_))
 obtain ⟨s1, v⟩ := r
 (repeat (refine gG ?_; try intro _))
 refine g_mv rfl (zbI rfl rfl rfl rfl rfl (fun w hk => H.len s1 (L ++ [x]) w (hk.rO mE) hok (by omega)) ?_)
 (repeat (refine gG ?_; try intro _))
 refine zaK 10 (.int .i64 (L.length : Int)) rfl (by rw [hl1]; congr 1; omega) ?_
 refine g_mv rfl (zax (fun w hk => up_any H s1 (L ++ [x]) L.length (L.length + 1) w (hk.rO mE) hok (by omega) (by omega) (by omega) hu) rfl rfl rfl rfl rfl kR uD (fun L' hI => ?_))
 obtain ⟨q1, q2, q3⟩ := hI
 (repeat (refine gG ?_; try intro _))
 refine zdG hT rfl rfl .nil (fun w' hk => ?_)
 exact RetM.mk (s1, L') ⟨q1, by rw [q1.length_eq, hl1]; exact q2⟩ rfl hk (fun b hb => (hE b).2 hb) mE
abbrev RetP (s : σ) (L : List α) (i : Nat) (w : World) : Ending → World → Prop := RetM (H.F s L) (fun r : σ × List α × α => L[i]? = some r.2.2 ∧ (r.2.1 ++ [r.2.2]).Perm L ∧ HeapN H.lt r.2.1 r.2.1.length) (fun r => H.xv r.2.2) (fun r => H.F r.1 r.2.1) w
theorem znL (s : σ) (L : List α) (w : World) (h : Rd1 w (H.F s L)) (hok : H.ok L) (hL : L.length ≤ 100000) (h0 : 0 < L.length) (hh : HeapN H.lt L L.length) :
 Calls Tryz.prog 124 [H.iv].toArray w (RetP H s L 0 w) := by
 obtain ⟨E, hE⟩ := H.fin s L w h.1
 obtain ⟨n, hn⟩ : ∃ n, L.length = n + 1 := ⟨L.length - 1, by omega⟩
 obtain ⟨x, hx⟩ : ∃ x, L[0]? = some x := ⟨L[0], List.getElem?_eq_getElem (by omega)⟩
 obtain ⟨y, hy⟩ : ∃ y, L[n]? = some y := ⟨L[n], List.getElem?_eq_getElem (by omega)⟩
 have hs1 := zcT hx hy
 have hok1 := H.okp _ _ hs1 hok
 have hl1 : (swp L 0 n x y).length = L.length := zhG
 have hget : ∀ k, (swp L 0 n x y)[k]? = if k = n then some x else if k = 0 then some y else L[k]? := fun k => swp_get (by omega) (by omega)
 have hd : DInv H.lt (swp L 0 n x y) n 0 False := by
  rcases Nat.eq_zero_or_pos n with e | e
  ·exact ⟨fun k h0 hk => by omega, fun h => absurd h (Nat.lt_irrefl _)⟩
  ·exact ((hh.mono (m := n) (by omega)).at_one H.ord (fun k hk hne => by rw [hget, if_neg (by omega), if_neg hne]) e (by omega)).1
 refine zab T E [H.F s L] [] Tryz.func124 rfl Tryz.ntmps124 rfl (Kn.startM h (fun b hb => (hE b).1 hb) (fun _ h => by cases h)) ?_
 (repeat (refine gG ?_; try intro _))
 refine g_mv rfl (zbI rfl rfl rfl rfl rfl (fun w hk => H.len s L w (hk.rO mE) hok hL) ?_)
 (repeat (refine gG ?_; try intro _))
 refine zaK 8 (.int .i64 (n : Int)) rfl (by rw [hn]; first | (congr 1; done) | (congr 1; omega)) ?_
 refine g_mv rfl (zbH rfl rfl rfl rfl rfl (fun w hk => H.swap s L w 0 n x y (hk.rO mE) hok hL hx hy) uD (fun v _ => ?_))
 (repeat (refine gG ?_; try intro _))
 refine zaK 11 (.int .i64 (n : Int)) rfl (by rw [hn]; first | (congr 1; done) | (congr 1; omega)) ?_
 refine g_mv rfl (zax (fun w hk => zn3 H s (swp L 0 n x y) 0 n w (hk.rO mE) hok1 (by omega) (by omega) (by omega) hd) rfl rfl rfl rfl rfl kR uD (fun r hI => ?_))
 obtain ⟨L2, b2⟩ := r
 obtain ⟨q1, q2, q3, q4⟩ := hI
 replace q1 : L2.Perm (swp L 0 n x y) := q1
 replace q2 : ∀ k, n ≤ k → L2[k]? = (swp L 0 n x y)[k]? := q2
 have hl2 : L2.length = n + 1 := by rw [q1.length_eq, hl1, hn]
 have hx2 : L2[n]? = some x := by rw [q2 n (Nat.le_refl _), hget, if_pos rfl]
 have hh2 : HeapN H.lt L2 n := by
  cases b2 with
  | true => exact q3 rfl
  | false =>
    obtain ⟨e1, e2⟩ := q4 rfl
    replace e1 : L2 = swp L 0 n x y := e1
    rw [e1]
    exact fun k h0 hk => e2 k h0 hk (by omega)
 have hsn := zkw hx2 hl2
 have hp2 : (L2.take n ++ [x]).Perm L := by rw [← hsn]; exact q1.trans hs1
 (repeat (refine gG ?_; try intro _))
 obtain ⟨L3, h3⟩ : ∃ L3, L3 = L2.take n := ⟨_, rfl⟩
 have h3h : HeapN H.lt L3 L3.length := by rw [h3]; exact zlN hh2 (by omega)
 have h3l : L3.length = n := by rw [h3, List.length_take]; omega
 rw [← h3] at hsn hp2
 subst hsn
 refine g_mv rfl (zbH rfl rfl rfl rfl rfl (fun w hk => H.pop s L3 x w (hk.rO mE) (H.okp _ _ hp2 hok) (by omega)) uD (fun s3 _ => ?_))
 (repeat (refine gG ?_; try intro _))
 refine zad hT rfl rfl (.tmp rfl .nil) (fun w' hk => ?_)
 exact RetM.mk (s3, L3, x) ⟨hx, hp2, h3h⟩ rfl hk (fun b hb => (hE b).2 hb) mE
end Go.Proofs.YtaghmffgoomebaaGreat.Hp
namespace Go.Proofs.YtaghmffgoomebaaGreat.Hp
open Go.RowKit Mem Gx
set_option maxRecDepth 100000
set_option maxHeartbeats 1000000
theorem elt_F : Elt Tryz.prog 149 26 1 4 := Elt.mk' (z := .int .u32 0) Tryz.underlying149 kR rfl (by decide)
theorem oneU : ∀ (x : Int) (j : Nat), (IE .u32 x j).oneCell' = true := fun x j => rfl
theorem znW (A : Option Addr) (n c : Nat) (w : World) : Calls Tryz.prog 168 [.slice A n c].toArray w fun e w' => e = .returned (.int .i64 (n : Int)) ∧ Below w.heap.size w w' := by
 refine zab T [] [] [] Tryz.func168 rfl Tryz.ntmps168 rfl (Kn.start _) ?_
 (repeat' (first | (refine gH ?_; try intro _) | (refine gS ?_ ?_ <;> intro _) | fail))
 refine zad hT rfl rfl (.tmp rfl .nil) (fun w' hk => ?_)
 exact ⟨rfl, hk.toBelow⟩
theorem zmb (A : Option Addr) (n c : Nat) (L : List Int) (i j : Nat) (x y : Int) (w : World) (hn : n = L.length) (hx : L[i]? = some x) (hy : L[j]? = some y) (hs : Rd1 w (sl A 1 (IE .u32) L)) :
 Calls Tryz.prog 169 [.slice A n c, .int .i64 (i : Int), .int .i64 (j : Int)].toArray w fun e w' => e = .returned (.bool (tB (x < y))) ∧ Below w.heap.size w w' := by
 have hi := (List.getElem?_eq_some_iff.1 hx).1
 have hj := (List.getElem?_eq_some_iff.1 hy).1
 refine zab T [] [] [sl A 1 (IE .u32) L] Tryz.func169 rfl Tryz.ntmps169 rfl (Rds.cons hs .nil).kn ?_
 refine zar (enc := IE .u32) (L := L) i mE hi (by decide) (fun b o z eA hz => ?_)
 obtain rfl : x = z := by rw [hx] at hz; exact Option.some.inj hz
 refine zar (enc := IE .u32) (L := L) j mE hj (by decide) (fun b2 o2 z eA2 hz2 => ?_)
 obtain rfl : y = z := by rw [hy] at hz2; exact Option.some.inj hz2
 rw [eA] at eA2
 injection eA2 with e3
 injection e3 with e4 e5
 subst e4
 subst e5
 subst eA
 (repeat (refine gG ?_; try intro _))
 refine zaP [0, 1] rfl rfl kR ?_
 (repeat (first | refine zbC dK ?_ | refine zae dK rfl rfl (zcc (nw := true) hT rfl sI) sF ?_ | refine za5 dK rfl rfl sF ?_ | refine zae dK rfl rfl (zbp hT rfl rfl mE rfl rfl) sF ?_ | refine zae dK rfl rfl (zbn hT rfl rfl mE rfl rfl) sF ?_ | refine zae dK rfl rfl (za1 hT rfl rfl mE rfl rfl) sF ?_ | (refine zcm dK rfl ?_; (first | (refine zaT rfl rfl rfl rfl ?_; intro _) | (refine zay rfl hT rfl rfl ?_; intro _) | refine zat hT rfl rfl rfl rfl rfl rfl sO rfl ?_ | (refine zaa rfl hT rfl rfl rfl rfl rfl rfl rfl rfl ?_; intro _)); refine ⟨sF, ?_⟩) | refine zae dK rfl rfl (zby rfl rfl rfl rfl rfl kR) sF ?_ | refine zae dK rfl rfl (za8 rfl rfl rfl rfl rfl kR) sF ?_))
 (repeat (refine gG ?_; try intro _))
 refine zad hT rfl rfl (.tmp rfl .nil) (fun w' hk => ?_)
 exact ⟨rfl, hk.toBelow⟩
abbrev frL (g : Nat) (rest : List Value) (Tg : TypeId) (v : Value) (L : List Int) : List Fact := [blk g (v :: rest) Tg, own 0 26 1 v (IE .u32) L]
theorem zdK (g : Nat) (rest : List Value) (Tg : TypeId) (v : Value) (L : List Int) : ∀ b, (packF (frL g rest Tg v L)).S b ↔ b ∈ g :: ownE v := fun b => by
 constructor
 ·rintro ⟨φ, hφ, hb⟩
  rcases List.mem_cons.1 hφ with rfl | hφ
  ·have : b = g := hb
   rw [this]
   exact .head _
  ·obtain rfl := m1 hφ
   exact .tail _ (zcx.2 hb)
 ·intro hb
  rcases List.mem_cons.1 hb with rfl | hb
  ·exact ⟨_, .head _, rfl⟩
  ·exact ⟨_, .tail _ (.head _), zcx.1 hb⟩
theorem zl8 (g : Nat) (rest : List Value) (Tg : TypeId) (v : Value) (L : List Int) (i j : Nat) (x y : Int) (w : World) (hx : L[i]? = some x) (hy : L[j]? = some y) (h : Rd1 w (packF (frL g rest Tg v L))) :
 Calls Tryz.prog 170 [v, .int .i64 (i : Int), .int .i64 (j : Int)].toArray w (RetM (packF (frL g rest Tg v L)) (fun _ : Value => True) (fun v => v) (fun _ => packF (frL g rest Tg v (swp L i j x y))) w) := by
 have hi := (List.getElem?_eq_some_iff.1 hx).1
 have hj := (List.getElem?_eq_some_iff.1 hy).1
 obtain ⟨b, c, hv, hc, hm⟩ := zeH (h.unpack (.tail _ (.head _))).1 (by omega)
 subst hv
 have hy2 : (L.set i y)[j]? = some y := by
  by_cases e : i = j
  ·subst e; simp [hi]
  ·rw [List.getElem?_set_ne e]; exact hy
 refine zab T _ (frL g rest Tg _ L) [] Tryz.func170 rfl Tryz.ntmps170 rfl (Kn.startP h (fun b hb => (zdK g rest Tg _ L b).1 hb) (fun _ h => by cases h)) ?_
 refine zas [] (Cut _ (fun _ : Unit => []) (fun _ => frL g rest Tg (.slice (some ⟨b, 0, none⟩) L.length c) (swp L i j x y)) (fun _ => [])) rfl rfl kR ?_ (zaD fun _ => ?_)
 ·skip
  refine gY hT 0 ?_
  refine gY hT 1 ?_
  refine gY hT 2 ?_
  refine gY hT 3 ?_
  refine gY hT 4 ?_
  refine gY hT 5 ?_
  refine gY hT 6 ?_
  refine gY hT 8 ?_
  refine gY hT 9 ?_
  refine gY hT 10 ?_
  refine gA2 7 11 ?_ ?_
  ·refine zaC rfl ((zaG (S := [own 0 26 1 (.slice (some ⟨b, 0, none⟩) L.length c) (IE .u32) L]) (o0 := 0) (sz := 1) (enc := IE .u32) (L := L) hT j y 0 rfl rfl rfl rfl hy (zb6 mE) rfl rfl).ydS sF) ?_
   refine ⟨sF, ?_⟩
   refine gP 11 ?_
   refine zaC rfl ((zaG (S := [own 0 26 1 (.slice (some ⟨b, 0, none⟩) L.length c) (IE .u32) L]) (o0 := 0) (sz := 1) (enc := IE .u32) (L := L) hT i x 0 rfl rfl rfl rfl hx (zb6 mE) rfl rfl).ydS sF) ?_
   refine ⟨sF, ?_⟩
   refine gY hT 12 ?_
   refine gP 13 ?_
   refine zbL hT i 0 x y rfl rfl (by show 0 + i * 1 = i * 1 + 0; omega) rfl rfl rfl rfl hx (by decide) (fun b hb hne => absurd (by omega) hne) rfl (by first | ((repeat (first | with_reducible exact Upd.here _ | with_reducible apply Upd.there)); done) | ((repeat (first | exact Upd.here _ | apply Upd.there)); done) | fail) rfl ?_
   refine ⟨sF, ?_⟩
   refine gY hT 14 ?_
   refine gP 15 ?_
   refine zbL hT j 0 y x rfl rfl (by show 0 + j * 1 = j * 1 + 0; omega) rfl rfl rfl rfl hy2 (by decide) (fun b hb hne => absurd (by omega) hne) rfl (by first | ((repeat (first | with_reducible exact Upd.here _ | with_reducible apply Upd.there)); done) | ((repeat (first | exact Upd.here _ | apply Upd.there)); done) | fail) rfl ?_
   refine ⟨sF, ?_⟩
   refine zak dK ?_
   exact ⟨(), fS, sA, sS⟩
  ·refine zaC rfl ((zaG (S := [own 0 26 1 (.slice (some ⟨b, 0, none⟩) L.length c) (IE .u32) L]) (o0 := 0) (sz := 1) (enc := IE .u32) (L := L) hT i x 0 rfl rfl rfl rfl hx (zb6 mE) rfl rfl).ydS sF) ?_
   refine ⟨sF, ?_⟩
   refine gP 7 ?_
   refine zaC rfl ((zaG (S := [own 0 26 1 (.slice (some ⟨b, 0, none⟩) L.length c) (IE .u32) L]) (o0 := 0) (sz := 1) (enc := IE .u32) (L := L) hT j y 0 rfl rfl rfl rfl hy (zb6 mE) rfl rfl).ydS sF) ?_
   refine ⟨sF, ?_⟩
   refine gY hT 12 ?_
   refine gP 13 ?_
   refine zbL hT i 0 x y rfl rfl (by show 0 + i * 1 = i * 1 + 0; omega) rfl rfl rfl rfl hx (by decide) (fun b hb hne => absurd (by omega) hne) rfl (by first | ((repeat (first | with_reducible exact Upd.here _ | with_reducible apply Upd.there)); done) | ((repeat (first | exact Upd.here _ | apply Upd.there)); done) | fail) rfl ?_
   refine ⟨sF, ?_⟩
   refine gY hT 14 ?_
   refine gP 15 ?_
   refine zbL hT j 0 y x rfl rfl (by show 0 + j * 1 = j * 1 + 0; omega) rfl rfl rfl rfl hy2 (by decide) (fun b hb hne => absurd (by omega) hne) rfl (by first | ((repeat (first | with_reducible exact Upd.here _ | with_reducible apply Upd.there)); done) | ((repeat (first | exact Upd.here _ | apply Upd.there)); done) | fail) rfl ?_
   refine ⟨sF, ?_⟩
   refine zak dK ?_
   exact ⟨(), fS, sA, sS⟩
 ·(repeat (refine gG ?_; try intro _))
  refine zdG hT rfl rfl .nil (fun w' hk => ?_)
  exact RetM.mkP (ll := fun _ => frL g rest Tg _ (swp L i j x y)) (.tuple #[]) trivial rfl hk (fun b hb => (zdK g rest Tg _ L b).2 hb) sA
end Go.Proofs.YtaghmffgoomebaaGreat.Hp
namespace Go.Proofs.YtaghmffgoomebaaGreat.Hp
open Go.RowKit Mem Gx
set_option maxRecDepth 100000
set_option maxHeartbeats 1000000
theorem zma (g : Nat) (rest : List Value) (Tg : TypeId) (v : Value) (L : List Int) (x : Int) (w : World) (hL : L.length ≤ 100000) (h : Rd1 w (packF (frL g rest Tg v L))) :
 Calls Tryz.prog 173 [.pointer (some ⟨g, 0, none⟩), .iface 26 (.int .u32 x)].toArray w (RetM (packF (frL g rest Tg v L)) (fun _ : Value × Value => True) (fun r => r.2) (fun r => packF (frL g rest Tg r.1 (L ++ [x]))) w) := by
 obtain ⟨A, c, hv, hc, hm, hA, _⟩ := zcw (h.unpack (.tail _ (.head _)))
 subst hv
 refine zab T _ (frL g rest Tg _ L) [] Tryz.func173 rfl Tryz.ntmps173 rfl (Kn.startP h (fun b hb => (zdK g rest Tg _ L b).1 hb) (fun _ h => by cases h)) ?_
 refine zas [] (Cut _ (fun _ : Value => []) (fun v => frL g rest Tg v (L ++ [x])) (fun _ => [])) rfl rfl kR ?_ (zaD fun v => ?_)
 ·skip
  refine gY hT 0 ?_
  refine gY hT 1 ?_
  refine gY hT 2 ?_
  refine gY hT 4 ?_
  refine zaz 5 rfl dK rfl rfl (zdp rfl rfl kR) sF ?_
  refine gA2 3 6 ?_ ?_
  ·refine zaC rfl (zaf hT rfl rfl mE rfl rfl) ?_
   refine ⟨sF, ?_⟩
   refine gP 6 ?_
   (refine zaa (len := 1) rfl hT rfl rfl rfl rfl rfl rfl rfl rfl ?_; intro g7)
   refine ⟨sF, ?_⟩
   refine gP 7 ?_
   refine zac (L := L) rfl [x] rfl rfl rfl rfl elt_F uD (zah mE rfl) rfl oneU sM sN (Nat.zero_le _) (fun v2 => ?_)
   refine ⟨sF, ?_⟩
   (refine zai v2 mE (fun A2 c2 hv2 _ _ _ => ?_); subst hv2)
   refine gY hT 8 ?_
   first | refine gO 9 ?_ | (refine gX 9 ?_; intro _)
   refine zak dK ?_
   exact ⟨_, fS, sA, sS⟩
  ·(refine zaa (len := 1) rfl hT rfl rfl rfl rfl rfl rfl rfl rfl ?_; intro g7)
   refine ⟨sF, ?_⟩
   refine gP 3 ?_
   refine zaC rfl (zaf hT rfl rfl mE rfl rfl) ?_
   refine ⟨sF, ?_⟩
   refine gP 7 ?_
   refine zac (L := L) rfl [x] rfl rfl rfl rfl elt_F uD (zah mE rfl) rfl oneU sM sN (Nat.zero_le _) (fun v2 => ?_)
   refine ⟨sF, ?_⟩
   (refine zai v2 mE (fun A2 c2 hv2 _ _ _ => ?_); subst hv2)
   refine gY hT 8 ?_
   first | refine gO 9 ?_ | (refine gX 9 ?_; intro _)
   refine zak dK ?_
   exact ⟨_, fS, sA, sS⟩
 ·(repeat (refine gG ?_; try intro _))
  refine zdG hT rfl rfl .nil (fun w' hk => ?_)
  exact RetM.mkP (ll := fun r : Value × Value => frL g rest Tg r.1 (L ++ [x])) (v, .tuple #[]) trivial rfl hk (fun b hb => (zdK g rest Tg _ L b).2 hb) sA
theorem znV (g : Nat) (rest : List Value) (Tg : TypeId) (v : Value) (L : List Int) (x : Int) (w : World) (hL : L.length ≤ 100000) (h : Rd1 w (packF (frL g rest Tg v (L ++ [x])))) :
 Calls Tryz.prog 172 [.pointer (some ⟨g, 0, none⟩)].toArray w (RetM (packF (frL g rest Tg v (L ++ [x]))) (fun _ : Value => True) (fun _ => .iface 26 (.int .u32 x)) (fun v' => packF (frL g rest Tg v' L)) w) := by
 have hl1 : (L ++ [x]).length = L.length + 1 := by simp
 have hx : (L ++ [x])[L.length]? = some x := by simp
 obtain ⟨b, c, hv, hc, hm⟩ := zeH (h.unpack (.tail _ (.head _))).1 (by omega)
 rw [hl1] at hv hc
 subst hv
 refine zab T _ (frL g rest Tg _ (L ++ [x])) [] Tryz.func172 rfl Tryz.ntmps172 rfl (Kn.startP h (fun b hb => (zdK g rest Tg _ _ b).1 hb) (fun _ h => by cases h)) ?_
 (repeat (refine gG ?_; try intro _))
 refine g_yd rfl rfl ((zaG (S := [own 0 26 1 (.slice (some ⟨b, 0, none⟩) (L.length + 1) c) (IE .u32) (L ++ [x])]) (o0 := 0) (sz := 1) (enc := IE .u32) (L := L ++ [x]) hT L.length x 0 rfl rfl rfl (by omega) hx (zb6 mE) rfl rfl).ydS sF) ?_
 (repeat (refine gG ?_; try intro _))
 refine g_yd rfl rfl (Ys.yd (zaU hT L.length rfl rfl rfl rfl (by omega) (by omega))) ?_
 refine zaK 19 (.slice (some ⟨b, 0, none⟩) L.length c) rfl (by rw [zgQ]) ?_
 refine zbD (g := b) (base := 0) (e := 26) (sz := 1) (n := L.length + 1) (c := c) (enc := IE .u32) (L := L ++ [x]) (by decide) uD (fun r0 hr1 hr2 hr3 hr4 hr5 => ?_)
 refine ze0 (g := b) (e := 26) (base := 0) (sz := 1) (enc := IE .u32) (n := L.length) (c := c) L (by decide) (by first | ((repeat (first | with_reducible exact Upd.here _ | with_reducible apply Upd.there)); done) | ((repeat (first | exact Upd.here _ | apply Upd.there)); done) | fail) hr1 rfl (by omega) hr4 hr5 (by rw [zao, List.append_assoc]; exact List.take_left' (zaq _ _ L)) ?_
 (repeat (refine gG ?_; try intro _))
 refine g_yd rfl rfl (Ys.yd (zbx rfl rfl kR)) ?_
 (repeat (refine gG ?_; try intro _))
 refine zad hT rfl rfl (.tmp rfl .nil) (fun w' hk => ?_)
 exact RetM.mkP (ll := fun v' => frL g rest Tg v' L) (.slice (some ⟨b, 0, none⟩) L.length c) trivial rfl hk (fun b hb => (zdK g rest Tg _ _ b).2 hb) sA
theorem zpT (g : Nat) (rest : List Value) (Tg : TypeId) (v : Value) (L : List Int) (w : World) (h : Rd1 w (packF (frL g rest Tg v L))) : (loadVar 149 ⟨g, 0, none⟩).run Tryz.prog w = .ok v w := by
 have hb : (row g 0 (v :: rest)).p w := (h.unpack (.head _)).row.1
 obtain ⟨A, c, hv, _⟩ := zcw (h.unpack (.tail _ (.head _)))
 subst hv
 exact zaS (d := .slice 26 1) (sz := 1) kR kR w g 0 (Value.slice A L.length c :: rest) hb (off := 0) rfl
theorem zic {name : String} {fid : FuncId} (hm : methOf Tryz.prog 194 name = some (fid, false)) (hok : callable Tryz.prog fid = true) (g : Nat) (rest : List Value) (Tg : TypeId) (v : Value) (L : List Int) (w : World) (args : List Value) (h : Rd1 w (packF (frL g rest Tg v L))) {R : Ending → World → Prop} (hc : Calls Tryz.prog fid (v :: args).toArray w R) :
 IMeth Tryz.prog (.iface 194 (.pointer (some ⟨g, 0, none⟩))) name args w R :=
 ⟨fid, _, znx hm Tryz.underlying194 hok (zpT g rest Tg v L w h), hc⟩
theorem zoP : LtO (fun x y : Int => x < y) := ⟨fun h => by omega, fun h1 h2 => by omega⟩
def frHO (g : Nat) (rest : List Value) (Tg : TypeId) : HO Value Int where
 iv := .iface 194 (.pointer (some ⟨g, 0, none⟩))
 F v L := packF (frL g rest Tg v L)
 lt x y := x < y
 ord := zoP
 ok _ := True
 okp _ _ _ _ := trivial
 okl _ _ _ := trivial
 xv x := .iface 26 (.int .u32 x)
 fin v L w _ := ⟨g :: ownE v, zdK g rest Tg v L⟩
 len v L w h _ _ := zic kR kR g rest Tg v L w [] h (by
  obtain ⟨A, c, hv, _⟩ := zcw (h.unpack (.tail _ (.head _)))
  subst hv
  exact znW A L.length c w)
 less v L w i j x y h _ _ hx hy := zic kR kR g rest Tg v L w _ h (by
  obtain ⟨A, c, hv, _, _, _, hs⟩ := zcw (h.unpack (.tail _ (.head _)))
  subst hv
  exact zmb A L.length c L i j x y w rfl hx hy hs)
 swap v L w i j x y h _ _ hx hy := zic kR kR g rest Tg v L w _ h (zl8 g rest Tg v L i j x y w hx hy h)
 push v L w x h _ hL := ⟨173, #[.pointer (some ⟨g, 0, none⟩), .iface 26 (.int .u32 x)], kR, zma g rest Tg v L x w hL h⟩
 pop v L x w h _ hL := ⟨172, #[.pointer (some ⟨g, 0, none⟩)], kR, znV g rest Tg v L x w hL h⟩
end Go.Proofs.YtaghmffgoomebaaGreat.Hp
namespace Go.Proofs.YtaghmffgoomebaaGreat.Hp
open Go.RowKit Mem Gx
set_option maxRecDepth 100000
set_option maxHeartbeats 1000000
abbrev one : Value := .int .i64 1
def kv (K : List Int) : List (Int × Value) := K.map fun k => (k, one)
theorem zh0 {b : Int} : ∀ {K : List Int} {i : Nat}, b ∉ K → lkp b (kv K) i = none
 | [], _, _ => rfl
 | x :: r, i, h => by
   show (if b = x then _ else _) = _
   rw [if_neg (fun e => h (by rw [e]; exact .head _))]
   exact zh0 (K := r) (i := i + 1) fun h1 => h (.tail _ h1)
theorem zlq {b : Int} : ∀ {K : List Int} {i : Nat}, b ∈ K → ∃ n, lkp b (kv K) i = some (i + n, one) ∧ K[n]? = some b
 | [], _, h => by cases h
 | x :: r, i, h => by
   by_cases e : b = x
   ·refine ⟨0, ?_, by simp [e]⟩
    show (if b = x then _ else _) = _
    rw [if_pos e]
    rfl
   ·obtain ⟨n, h1, h2⟩ := zlq (K := r) (i := i + 1) (by cases h with | head => exact absurd rfl e | tail _ h => exact h)
    refine ⟨n + 1, ?_, by simpa using h2⟩
    show (if b = x then _ else lkp b (kv r) (i + 1)) = _
    rw [if_neg e, h1, show i + 1 + n = i + (n + 1) by omega]
theorem kv_set {b : Int} {K : List Int} (h : b ∉ K) : mset b one (kv K) = kv (K ++ [b]) := by
 rw [zeI (zh0 (i := 0) h)]
 unfold kv
 rw [List.map_append]
 rfl
theorem zdv {α : Type} : ∀ {L : List α} {n : Nat} {x : α}, L[n]? = some x → (x :: L.eraseIdx n).Perm L
 | [], n, x, h => by simp at h
 | y :: r, 0, x, h => by
   obtain rfl : y = x := by simpa using h
   exact List.Perm.refl _
 | y :: r, n + 1, x, h => by
   have := zdv (L := r) (n := n) (by simpa using h)
   exact (List.Perm.swap y x _).trans (this.cons y)
theorem kv_del {b : Int} {K : List Int} (h : b ∈ K) : ∃ K', mdel b (kv K) = kv K' ∧ (b :: K').Perm K := by
 obtain ⟨n, h1, h2⟩ := zlq (i := 0) h
 refine ⟨K.eraseIdx n, ?_, zdv h2⟩
 unfold mdel
 rw [h1]
 simp only [Nat.zero_add]
 unfold kv
 apply List.ext_getElem?
 intro k
 simp only [List.getElem?_eraseIdx, List.getElem?_map]
 split <;> rfl
theorem zlO {b : Int} {K : List Int} : ((lkp b (kv K) 0).map (·.2)).getD (.int .i64 0) = .int .i64 (if b ∈ K then 1 else 0) := by
 by_cases h : b ∈ K
 ·obtain ⟨n, h1, _⟩ := zlq (i := 0) h
  rw [h1, if_pos h]
  rfl
 ·rw [zh0 h, if_neg h]
  rfl
def mpo (mo : Option Nat) (K : List Int) : Fact := match mo with
 | some r => mp r .u32 (kv K)
 | none => ⟨fun _ => False, fun _ => K = [], fun _ _ _ h => h⟩
structure FrS where
 mo : Option Nat
 v : Value
 L : List Int
 K : List Int
def frF (g : Nat) (s : FrS) : List Fact := [packF (frL g [.map s.mo] 151 s.v s.L), mpo s.mo s.K]
structure FrOk (s : FrS) (S : List Int) : Prop where
 l : s.L.Perm S
 k : s.K.Perm S
 sorted : S.Pairwise (· < ·)
 heap : HeapN (fun x y : Int => x < y) s.L s.L.length
 nil : s.mo = none → S = []
 len : S.length ≤ 10000
theorem zbS (g : Nat) (s : FrS) : ∀ b, (packF (frF g s)).S b ↔ b ∈ (g :: ownE s.v) ++ s.mo.toList := fun b => by
 obtain ⟨mo, v, L, K⟩ := s
 constructor
 ·rintro ⟨φ, hφ, hb⟩
  rcases List.mem_cons.1 hφ with rfl | hφ
  ·exact List.mem_append_left _ ((zdK g [.map mo] 151 v L b).1 hb)
  ·obtain rfl := m1 hφ
   cases mo with
   | none => exact hb.elim
   | some r =>
     have : b = r := hb
     subst this
     exact List.mem_append_right _ (.head _)
 ·intro hb
  rcases List.mem_append.1 hb with hb | hb
  ·exact ⟨_, .head _, (zdK g [.map mo] 151 v L b).2 hb⟩
  ·cases mo with
   | none => cases hb
   | some r =>
     obtain rfl := m1 hb
     exact ⟨_, .tail _ (.head _), rfl⟩
theorem zo3 : ∀ w, (zeroValue 3).run Tryz.prog w = .ok (.int .i64 0) w := fun w => by kernel_rfl
theorem znA (g : Nat) (s : FrS) (w : World) (h : Rd1 w (packF (frF g s))) (hl : s.L.length ≤ 100000) :
 Calls Tryz.prog 40 [.pointer (some ⟨g, 0, none⟩)].toArray w fun e w' => e = .returned (.int .i64 (s.L.length : Int)) ∧ Below w.heap.size w w' := by
 obtain ⟨mo, v, L, K⟩ := s
 obtain ⟨A, c, hv, hc, hm, hA, hs⟩ := zcw ((h.unpack (.head _)).unpack (.tail _ (.head _)))
 replace hv : v = .slice A L.length c := hv
 subst hv
 have hb : Rd1 w (blk g [.slice A L.length c, .map mo] 151) := (h.unpack (.head _)).unpack (.head _)
 refine zab T [] [] [row g 0 [.slice A L.length c, .map mo]] Tryz.func40 rfl Tryz.ntmps40 rfl (Rds.cons hb.row .nil).kn ?_
 (repeat' (first | (refine gH ?_; try intro _) | (refine gS ?_ ?_ <;> intro _) | fail))
 refine zad hT rfl rfl (.tmp rfl .nil) (fun w' hk => ?_)
 exact ⟨rfl, hk.toBelow⟩
end Go.Proofs.YtaghmffgoomebaaGreat.Hp
