/- points.Find, Of and May at the chapter's example; the law PointsNeeded, walked. -/
import Derived.Test.YtfdnpdolpfnlgaaPts
namespace Go.Proofs.Ytfdnpdolpfnlgaa.Pts
open Go.RowKit Mem
set_option linter.unusedVariables false
set_option linter.unusedSimpArgs false
/-- A volume, its sizes as a slice that isn't looked into. -/
structure Vol where
  id : Int
  born : Int
  A : Option Addr
  n : Nat
  c : Nat
instance : Inhabited Vol := ⟨⟨0, 0, none, 0, 0⟩⟩
def VE (v : Vol) : Nat → Value
  | 0 => .int .i64 v.id
  | 1 => .int .u64 v.born
  | _ => .slice v.A v.n v.c
theorem find_of {L : List Vol} {k : Nat} {x : Vol} {id : Int} (hn : ∀ y ∈ L.take k, ¬ y.id = id) (hx : L[k]? = some x) (he : x.id = id) : L.find? (fun v => v.id == id) = some x := by
  have hk : k < L.length := by
    rcases Nat.lt_or_ge k L.length with h' | h'
    · exact h'
    · rw [List.getElem?_eq_none h'] at hx; cases hx
  have e : L = L.take k ++ L.drop k := (List.take_append_drop k L).symm
  rw [List.getElem?_eq_getElem hk] at hx
  injection hx with hx
  rw [e, List.find?_append, List.drop_eq_getElem_cons hk, hx]
  have h1 : (L.take k).find? (fun v => v.id == id) = none := by
    rw [List.find?_eq_none]; intro y hy; simpa using hn y hy
  rw [h1, Option.none_or, List.find?_cons, show (x.id == id) = true by simpa using he]
set_option maxRecDepth 100000 in
set_option maxHeartbeats 1000000 in
theorem find_some (nv ng nb fl : Int) (AV AG AB AK AT : Option Addr) (n cv mg cg mb cb mk ck mt ct : Nat) (id : Int) (L : List Vol) (w : World) (hn : n = L.length) (hb9 : n ≤ 9223372036854775807) (h : Sl w AV 3 VE L) (x : Vol) (hr : L.find? (fun v => v.id == id) = some x) :
    Calls Try.prog 109 #[.agg #[.int .i64 nv, .int .i64 ng, .int .i64 nb, .int .u64 fl, .slice AV n cv, .slice AG mg cg, .slice AB mb cb, .slice AK mk ck, .slice AT mt ct], .int .i64 id] w fun e w' => e = .returned (.tuple #[.agg #[.int .i64 x.id, .int .u64 x.born, .slice x.A x.n x.c], .bool true]) ∧ Below w.heap.size w w' := by
  have H := Lib.hid h
  clear h
  have HN := Lib.hid hn
  clear hn
  have HR := Lib.hid hr
  clear hr
  go_enter Try.func109, Try.ntmps109
  go_wp2
  go_loopw [11] (fun i wr => ∃ k : Nat, k ≤ n ∧ i = .int .i64 k ∧ Below w.heap.size w wr ∧ w.heap.size + 1 < wr.heap.size ∧ wr.cell? ⟨w.heap.size + 1, 0, none⟩ = some (.int .i64 0) ∧ wr.cell? ⟨w.heap.size + 1, 1, none⟩ = some (.int .u64 0) ∧ wr.cell? ⟨w.heap.size + 1, 2, none⟩ = some (.slice none 0 0) ∧ (∀ j, wr.frozen? ⟨w.heap.size + 1, j, none⟩ = false) ∧ Hid (∀ y ∈ L.take k, ¬ y.id = id)) (fun i _ => n - (intOf i).toNat)
  case atStart => exact ⟨0, Nat.zero_le _, rfl, (by repeat (first | assumption | exact Below.refl _ _ | refine bel_alloc ?_ _ | refine bel_drewN ?_ _ | refine bel_drew ?_ | refine bel_set ?_ (by first | (simp; done) | omega | (simp; omega)) _ | refine bel_trans ?_ (by assumption))), by simp, by simp, by simp, by simp, fun j => by simp, Lib.hid (fun y hy => by simp at hy)⟩
  case round =>
    obtain ⟨k, hk, rfl, hb, hz, z0, z1, z2, zf, hno⟩ := hrel
    by_cases hlt : k < n
    · obtain ⟨b, off, y, rfl, hx, ht, hm, hc⟩ := Sl.at_ (H.out.below hb) k (by have := HN.out; omega)
      have g0 := hc 0 (by omega)
      have g1 := hc 1 (by omega)
      have g2 := hc 2 (by omega)
      rw [Nat.add_zero] at g0
      have HX := Lib.hid hx
      have HT := Lib.hid ht
      clear hx ht hm hc
      simp only [VE] at g0 g1 g2
      by_cases c1 : y.id = id
      · have HE := Lib.hid (find_of hno.out HX.out c1)
        have d1 : (y.id == id) = true := by simpa using c1
        clear c1
        go_wp2
        obtain rfl : x = y := by have := HR.out.symm.trans HE.out; injection this
        exact bodyPost_ret (v := .tuple #[.agg #[.int .i64 x.id, .int .u64 x.born, .slice x.A x.n x.c], .bool true]) (by simp [results, Try.results109, go_sem, z0, z1, z2, zf, hz]) rfl ⟨rfl, (by repeat (first | assumption | exact Below.refl _ _ | refine bel_alloc ?_ _ | refine bel_drewN ?_ _ | refine bel_drew ?_ | refine bel_set ?_ (by first | (simp; done) | omega | (simp; omega)) _ | refine bel_trans ?_ (by assumption)))⟩
      · have d1 : (y.id == id) = false := by simpa using c1
        have HE := Lib.hid c1
        clear c1
        go_wp2
        go_roundw
        case rel => exact ⟨k + 1, by omega, by go_num, (by repeat (first | assumption | exact Below.refl _ _ | refine bel_alloc ?_ _ | refine bel_drewN ?_ _ | refine bel_drew ?_ | refine bel_set ?_ (by first | (simp; done) | omega | (simp; omega)) _ | refine bel_trans ?_ (by assumption))), by simp; omega, by go_simp, by go_simp, by go_simp, fun j => by go_simp, Lib.hid (fun z hz' => by
          rw [HT.out] at hz'
          rcases List.mem_append.1 hz' with hz' | hz'
          · exact hno.out z hz'
          · simp at hz'; subst hz'; exact HE.out)⟩
        case measure => simp [intOf]; omega
    · exfalso
      have h1 := List.find?_some HR.out
      have h2 := hno.out x (by rw [List.take_of_length_le (by have := HN.out; omega)]; exact List.mem_of_find?_eq_some HR.out)
      simp at h1
      exact h2 h1
set_option maxRecDepth 100000 in
set_option maxHeartbeats 1000000 in
theorem find_none (nv ng nb fl : Int) (AV AG AB AK AT : Option Addr) (n cv mg cg mb cb mk ck mt ct : Nat) (id : Int) (L : List Vol) (w : World) (hn : n = L.length) (hb9 : n ≤ 9223372036854775807) (h : Sl w AV 3 VE L) (hr : L.find? (fun v => v.id == id) = none) :
    Calls Try.prog 109 #[.agg #[.int .i64 nv, .int .i64 ng, .int .i64 nb, .int .u64 fl, .slice AV n cv, .slice AG mg cg, .slice AB mb cb, .slice AK mk ck, .slice AT mt ct], .int .i64 id] w fun e w' => e = .returned (.tuple #[.agg #[.int .i64 0, .int .u64 0, .slice none 0 0], .bool false]) ∧ Below w.heap.size w w' := by
  have H := Lib.hid h
  clear h
  have HN := Lib.hid hn
  clear hn
  have HR := Lib.hid hr
  clear hr
  go_enter Try.func109, Try.ntmps109
  go_wp2
  go_loopw [11] (fun i wr => ∃ k : Nat, k ≤ n ∧ i = .int .i64 k ∧ Below w.heap.size w wr ∧ w.heap.size + 1 < wr.heap.size ∧ wr.cell? ⟨w.heap.size + 1, 0, none⟩ = some (.int .i64 0) ∧ wr.cell? ⟨w.heap.size + 1, 1, none⟩ = some (.int .u64 0) ∧ wr.cell? ⟨w.heap.size + 1, 2, none⟩ = some (.slice none 0 0) ∧ (∀ j, wr.frozen? ⟨w.heap.size + 1, j, none⟩ = false) ∧ Hid (∀ y ∈ L.take k, ¬ y.id = id)) (fun i _ => n - (intOf i).toNat)
  case atStart => exact ⟨0, Nat.zero_le _, rfl, (by repeat (first | assumption | exact Below.refl _ _ | refine bel_alloc ?_ _ | refine bel_drewN ?_ _ | refine bel_drew ?_ | refine bel_set ?_ (by first | (simp; done) | omega | (simp; omega)) _ | refine bel_trans ?_ (by assumption))), by simp, by simp, by simp, by simp, fun j => by simp, Lib.hid (fun y hy => by simp at hy)⟩
  case round =>
    obtain ⟨k, hk, rfl, hb, hz, z0, z1, z2, zf, hno⟩ := hrel
    by_cases hlt : k < n
    · obtain ⟨b, off, y, rfl, hx, ht, hm, hc⟩ := Sl.at_ (H.out.below hb) k (by have := HN.out; omega)
      have g0 := hc 0 (by omega)
      have g1 := hc 1 (by omega)
      have g2 := hc 2 (by omega)
      rw [Nat.add_zero] at g0
      have HX := Lib.hid hx
      have HT := Lib.hid ht
      clear hx ht hm hc
      simp only [VE] at g0 g1 g2
      by_cases c1 : y.id = id
      · have HE := Lib.hid (find_of hno.out HX.out c1)
        have d1 : (y.id == id) = true := by simpa using c1
        clear c1
        exact absurd (HR.out.symm.trans HE.out) (by simp)
      · have d1 : (y.id == id) = false := by simpa using c1
        have HE := Lib.hid c1
        clear c1
        go_wp2
        go_roundw
        case rel => exact ⟨k + 1, by omega, by go_num, (by repeat (first | assumption | exact Below.refl _ _ | refine bel_alloc ?_ _ | refine bel_drewN ?_ _ | refine bel_drew ?_ | refine bel_set ?_ (by first | (simp; done) | omega | (simp; omega)) _ | refine bel_trans ?_ (by assumption))), by simp; omega, by go_simp, by go_simp, by go_simp, fun j => by go_simp, Lib.hid (fun z hz' => by
          rw [HT.out] at hz'
          rcases List.mem_append.1 hz' with hz' | hz'
          · exact hno.out z hz'
          · simp at hz'; subst hz'; exact HE.out)⟩
        case measure => simp [intOf]; omega
    · go_wp2
      exact bodyPost_ret (v := .tuple #[.agg #[.int .i64 0, .int .u64 0, .slice none 0 0], .bool false]) (by simp [results, Try.results109, go_sem, z0, z1, z2, zf, hz]) rfl ⟨rfl, (by repeat (first | assumption | exact Below.refl _ _ | refine bel_alloc ?_ _ | refine bel_drewN ?_ _ | refine bel_drew ?_ | refine bel_set ?_ (by first | (simp; done) | omega | (simp; omega)) _ | refine bel_trans ?_ (by assumption)))⟩
end Go.Proofs.Ytfdnpdolpfnlgaa.Pts
