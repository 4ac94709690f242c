/- The walk by reckoned steps: strings put together, and cut; arrays cut. -/
import Derived.Laws.Strings2
import Derived.Laws.Slices
import Derived.Laws.Entries
import Derived.Test.YtdkgmgfadpnhbaaGxY
namespace Go.Proofs.Ytdkgmgfadpnhbaa.Gx
open Go.RowKit Mem
set_option linter.unusedVariables false
set_option linter.unusedSimpArgs false
theorem sx_app (L M : List Int) : strOfNums L ++ strOfNums M = strOfNums (L ++ M) := by
  apply ByteArray.ext
  apply Array.ext'
  simp [strOfNums]
theorem sx_ext (L : List Int) (l h : Nat) : (strOfNums L).extract l h = strOfNums ((L.take h).drop l) := by
  apply ByteArray.ext
  apply Array.ext'
  simp [strOfNums, List.map_drop, List.map_take, List.drop_take]
theorem sx_size (L : List Int) : (strOfNums L).size = L.length := strOfNums_size L
theorem sx_tB {L M : List Int} (hL : ∀ x ∈ L, 0 ≤ x ∧ x ≤ 255) (hM : ∀ x ∈ M, 0 ≤ x ∧ x ≤ 255) : tB (strOfNums L = strOfNums M) = tB (L = M) := tB_congr ⟨strOf_inj hL hM, fun h => by rw [h]⟩
theorem sx_of (t : ByteArray) : ∃ L : List Int, t = strOfNums L ∧ ∀ x ∈ L, 0 ≤ x ∧ x ≤ 255 := by
  refine ⟨t.data.toList.map fun x => (x.toNat : Int), ?_, fun x hx => ?_⟩
  · apply ByteArray.ext
    apply Array.ext'
    simp only [strOfNums, List.map_map]
    exact ((List.map_congr_left (g := id) (fun x _ => by simp)).trans (List.map_id _)).symm
  · obtain ⟨y, _, rfl⟩ := List.mem_map.1 hx
    have := y.toNat_lt
    omega
theorem idxV_sx {T : Tab} {t tt s : Nat} {z : List Value} {L : List Int} {j : Nat} {x : Int} {kk : IntKind} (hf : tfind T t = some ⟨tt, .str, s, z⟩) (hb : L[j]? = some x) (hx : 0 ≤ x ∧ x ≤ 255) : idxV T t (.string (strOfNums L)) (.int kk (j : Int)) = some (.int .u8 x) := by
  have h1 : (strOfNums L).data.toList[j]? = some (UInt8.ofNat x.toNat) := by rw [strOfNums_data]; simp [hb]
  rw [idxV_str hf h1, UInt8.toNat_ofNat', Nat.mod_eq_of_lt (by omega)]
  congr 2
  omega
section
variable {X : Cx} {f : Fr} {o : Oper} {S : List Fact}
theorem ys_str_add {t : Nat} {x y : Operand} {yt : TypeId} {a b : ByteArray} (ho : o.op = .binOp .add t x y yt) (hx : look X.n f x = some (.string a)) (hy : look X.n f y = some (.string b)) (hs : a.size + b.size ≤ 1000000000) : Ys X S f o (.string (a ++ b)) := fun ac w hr _ => by
  have hg : (eqGuard .add t x y (.string a) (.string b)).run X.P w = .ok () w := by unfold eqGuard; rfl
  simp only [execOp, ho, hr.look hx, hr.look hy, Sem.run_bind, hg, Result.andThen_ok]
  have h1 : ¬ ((a.size + b.size : Nat) : Int) > IntKind.i64.max := by
    have : IntKind.i64.max = 9223372036854775807 := rfl
    omega
  simp only [binOp, Op.stringOp, if_neg h1]
  rfl
/-- Of strings of numbers. -/
theorem ys_sx_add {t : Nat} {x y : Operand} {yt : TypeId} {a b : ByteArray} {L M : List Int} (ho : o.op = .binOp .add t x y yt) (hx : look X.n f x = some (.string a)) (hy : look X.n f y = some (.string b)) (ha : a = strOfNums L) (hb : b = strOfNums M) (hs : L.length + M.length ≤ 1000000000) : Ys X S f o (.string (strOfNums (L ++ M))) := by
  subst ha
  subst hb
  rw [← sx_app]
  exact ys_str_add ho hx hy (by rw [sx_size, sx_size]; exact hs)
theorem ys_sx_lh (hT : TabOk X.P X.T) {ty t s : Nat} {z : List Value} {x lo hi : Operand} {a : ByteArray} {L : List Int} {kl kh : IntKind} {iv ih : Int} (j h : Nat) (ho : o.op = .slice ty x (some lo) (some hi) none) (hx : look X.n f x = some (.string a)) (hl : look X.n f lo = some (.int kl iv)) (hh : look X.n f hi = some (.int kh ih)) (hty : tfind X.T ty = some ⟨t, .str, s, z⟩)
    (ha : a = strOfNums L) (hj : iv = j) (hih : ih = h) (hjh : j ≤ h) (hhc : h ≤ L.length) : Ys X S f o (.string (strOfNums ((L.take h).drop j))) := fun ac w hr hk => by
  obtain ⟨ht, hk1⟩ := tfind_ok hT hty
  simp only at ht
  subst ht
  subst hj
  subst hih
  subst ha
  have hu := chk_str hk1.d
  have h3 := run_slice_string (P := X.P) w t (strOfNums L) kl kh (j : Int) (h : Int) hu (by omega) (by omega) (by rw [sx_size]; omega)
  simp [execOp, ho, hr.look hx, hr.look hl, hr.look hh, run_sliceAt_string (P := X.P) w t _ _ _ _ hu, h3, sx_ext]
theorem ys_sx_h (hT : TabOk X.P X.T) {ty t s : Nat} {z : List Value} {x hi : Operand} {a : ByteArray} {L : List Int} {kh : IntKind} {ih : Int} (h : Nat) (ho : o.op = .slice ty x none (some hi) none) (hx : look X.n f x = some (.string a)) (hh : look X.n f hi = some (.int kh ih)) (hty : tfind X.T ty = some ⟨t, .str, s, z⟩)
    (ha : a = strOfNums L) (hih : ih = h) (hhc : h ≤ L.length) : Ys X S f o (.string (strOfNums (L.take h))) := fun ac w hr hk => by
  obtain ⟨ht, hk1⟩ := tfind_ok hT hty
  simp only at ht
  subst ht
  subst hih
  subst ha
  have hu := chk_str hk1.d
  have h3 := run_slice_string_h (P := X.P) w t (strOfNums L) hu kh (h : Int) (by omega) (by rw [sx_size]; omega)
  simp [execOp, ho, hr.look hx, hr.look hh, run_sliceAt_string (P := X.P) w t _ _ _ _ hu, h3, sx_ext]
theorem ys_sx_l (hT : TabOk X.P X.T) {ty t s : Nat} {z : List Value} {x lo : Operand} {a : ByteArray} {L : List Int} {kl : IntKind} {iv : Int} (j : Nat) (ho : o.op = .slice ty x (some lo) none none) (hx : look X.n f x = some (.string a)) (hl : look X.n f lo = some (.int kl iv)) (hty : tfind X.T ty = some ⟨t, .str, s, z⟩)
    (ha : a = strOfNums L) (hj : iv = j) (hjn : j ≤ L.length) : Ys X S f o (.string (strOfNums (L.drop j))) := fun ac w hr hk => by
  obtain ⟨ht, hk1⟩ := tfind_ok hT hty
  simp only at ht
  subst ht
  subst hj
  subst ha
  have hu := chk_str hk1.d
  have h3 := run_slice_string_l (P := X.P) w t (strOfNums L) hu kl (j : Int) (by omega) (by rw [sx_size]; omega)
  simp [execOp, ho, hr.look hx, hr.look hl, run_sliceAt_string (P := X.P) w t _ _ _ _ hu, h3, sx_ext, sx_size]
theorem ys_arr_l (hT : TabOk X.P X.T) {ty t n e s g off : Nat} {z : List Value} {x lo : Operand} {kl : IntKind} {iv : Int} (j : Nat) (ho : o.op = .slice ty x (some lo) none none) (hx : look X.n f x = some (.pointer (some ⟨g, off, none⟩))) (hl : look X.n f lo = some (.int kl iv)) (hty : tfind X.T ty = some ⟨t, .array n e 1, s, z⟩)
    (hj : iv = j) (hjn : j < n) : Ys X S f o (.slice (some ⟨g, off + j, none⟩) (n - j) (n - j)) := fun ac w hr hk => by
  obtain ⟨ht, hk1⟩ := tfind_ok hT hty
  simp only at ht
  subst ht
  subst hj
  obtain ⟨hu, hes⟩ := chk_array hk1.d
  have e1 : X.P.arrayLen t = n := by simp [Program.arrayLen, hu]
  have e2 : X.P.elem t = e := by simp [Program.elem, hu]
  have h3 := run_sliceAt_array_l (P := X.P) w t ⟨g, off, none⟩ (by rw [e1, e2]; exact hu) kl (j : Int) (by omega) (by rw [e1]; omega)
  rw [e1, e2, run_sizeOf hes w] at h3
  simp only [Result.andThen_ok, slicedAt, Int.toNat_natCast] at h3
  rw [if_neg (by omega)] at h3
  simp [execOp, ho, hr.look hx, hr.look hl, h3, Addr.add]
end
end Go.Proofs.Ytdkgmgfadpnhbaa.Gx

