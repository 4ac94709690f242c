/- Law 55: rows of one's own, calls as an argument. -/
import Derived.Test.YtdkgmgfadpnhbaaNm7
import Derived.Test.YtdkgmgfadpnhbaaNmA
import Derived.Test.YtdkgmgfadpnhbaaOpen
import Derived.Test.YtdkgmgfadpnhbaaFlat3
namespace Go.Proofs.Ytdkgmgfadpnhbaa.Nm
open Go.RowKit Mem Gx SoS
open Go.ChangeShapes Go.WideShapes Go.Deep
set_option linter.unusedVariables false
set_option linter.unusedSimpArgs false
set_option maxRecDepth 100000
set_option maxHeartbeats 2000000
theorem by_own (v : Value) (l : List NmD) (id : Int) (w : World) (h9 : l.length ≤ 1000) (h : Rd1 w (own 0 75 2 v NE l)) :
    Calls Try.prog 23 [v, .int .i64 id].toArray w fun e w' => e = .returned (.int .i64 (posF (pI id) l)) ∧ Below w.heap.size w w' := by
  obtain ⟨A, c, rfl, _⟩ := own_rdv h
  exact by_any A l.length c l id w rfl (by omega) (rd_own h)
theorem of_own (v : Value) (l : List NmD) (s : ByteArray) (w : World) (h9 : l.length ≤ 1000) (h : Rd1 w (own 0 75 2 v NE l)) :
    Calls Try.prog 26 [v, .string s].toArray w fun e w' => e = .returned (.int .i64 (posF (pS s) l)) ∧ Below w.heap.size w w' := by
  obtain ⟨A, c, rfl, _⟩ := own_rdv h
  exact of_any A l.length c l s w rfl (by omega) (rd_own h)
theorem without_own_no (v : Value) (l : List NmD) (w : World) (h : Rd1 w (own 0 75 2 v NE l)) :
    Calls Try.prog 25 [v, .int .i64 (-1)].toArray w fun e w' => e = .returned v ∧ Below w.heap.size w w' := by
  obtain ⟨A, c, rfl, _⟩ := own_rdv h
  exact without_no A l.length c w
theorem without_own (v : Value) (l : List NmD) (i : Nat) (w : World) (h9 : l.length ≤ 1000) (hi : i < l.length) (h : Rd1 w (own 0 75 2 v NE l)) :
    Calls Try.prog 25 [v, .int .i64 (i : Int)].toArray w (Ret (fun _ : Value => True) (fun v => v) (fun v => [own 0 75 2 v NE (l.take i ++ l.drop (i + 1))]) w) := by
  obtain ⟨A, c, rfl, h1, h2, h3, h4⟩ := own_rdv h
  exact without_at A l.length c i l w ⟨rfl, by first | assumption | omega, by first | assumption | omega, by first | assumption | (intro e; exact h4 e)⟩ (by omega) hi (rd_own h)
theorem told_own (t : Nat) (T1 : NTab) (v : Value) (l : List NmD) (d : Bool) (id : Int) (nm st : ByteArray) (w : World) (hl9 : l.length ≤ 100) (hst : st.size ≤ 1000) (hs9 : ∀ y, y ∈ l → y.s.size ≤ 1000) (hI : NtI T1 l) (h : Rd1 w (ntF t T1)) (hs : Rd1 w (own 0 75 2 v NE l)) :
    Calls Try.prog 28 [.pointer (some ⟨t, 0, none⟩), v, .agg #[.bool d, .int .i64 id, .string nm], .string st].toArray w fun e w' => e = .returned (.bool true) ∧ Below w.heap.size w w' := by
  obtain ⟨A, c, rfl, _⟩ := own_rdv hs
  exact told_any t T1 A l.length c l d id nm st w rfl hl9 hst hs9 hI h (rd_own hs)
structure CallN where
  drop : Bool
  id : Int
  s : ByteArray
deriving Inhabited
def CE (c : CallN) : Nat → Value
  | 0 => .bool c.drop
  | 1 => .int .i64 c.id
  | _ => .string c.s
theorem call_leaves {H : Type} {enc : TypeId × Value → H} {W : World} {V : Nat → Value} {l : List TypeId} (hl : l = [4, 3, 9]) (hV : ∀ (j : Nat) (tj : TypeId), l[j]? = some tj → Leaf enc Try.prog W tj (V j)) :
    ∃ y : CallN, (∀ j, j < 3 → V j = CE y j) ∧ True := by
  subst hl
  obtain ⟨a0, e0⟩ := leaf_bool Try.underlying4 (hV 0 _ rfl)
  obtain ⟨a1, e1, w1⟩ := leaf_int Try.underlying3 (hV 1 _ rfl)
  obtain ⟨a2, e2, w2⟩ := leaf_string Try.underlying9 (hV 2 _ rfl)
  refine ⟨⟨a0, a1, a2⟩, fun j hj => ?_, trivial⟩
  match j, hj with
  | 0, _ => exact e0
  | 1, _ => exact e1
  | 2, _ => exact e2
theorem calls_of {H : Type} {enc : TypeId × Value → H} {W : World} {base : Nat} {v : Value} {d : DataW H} {p : List MemPlace} (hv : Value.okWide Try.prog W .any base 61 v) (h : DataW.Trod enc Try.prog W 0 (fun _ => true) true 61 v d p) :
    ∃ (A : Option Addr) (n c : Nat) (L : List CallN), v = .slice A n c ∧ (n = L.length ∧ Sl W A 3 CE L) := by
  have hl : leaves Try.prog 8 69 = some [4, 3, 9] := by decide +kernel
  obtain ⟨A, n, c, F, rfl, hA, h1, h2, h3, h4⟩ := open_slices Try.underlying61 hl (by kernel_rfl) (by decide) hv h
  obtain ⟨L, hn, hs, hb⟩ := arr_list (enc := CE) (Q := fun _ => True) hA (fun i hi => call_leaves rfl (h4 i hi))
  exact ⟨A, n, c, L, rfl, hn, hs⟩
end Go.Proofs.Ytdkgmgfadpnhbaa.Nm

