/- 'append(s, make([]T, m)...)' over a slice of the call's own, elements of one cell. Plain law: a number as bytes, the lowest first, and back. Plain law: eight turns of a state under a byte, by numbers, are eight turns bit by bit. -/
import Derived.Test.YtaghmffgoomebaaGreatFlat3
import Derived.Lib.AppendZerosOnto
import Derived.Test.YtaghmffgoomebaaGreatRows
set_option linter.unusedVariables false
set_option linter.unusedSimpArgs false
namespace Go.Proofs.YtaghmffgoomebaaGreat.Mem
open Go.RowKit
section
variable {P : Program} (w : World)
theorem zdo (u : Value) (m : Nat) : (Builtin.zeroCells #[u] m).toList = List.replicate m u := by
 apply List.ext_getElem?
 intro j
 by_cases hj : j < m
 ·simp [Builtin.zeroCells, hj, Nat.mod_one]
 ·simp [Builtin.zeroCells, hj]
theorem zee (base : Nat) (t tn ty e : TypeId) (i : TypeInfo) (z u : Value) (bytes : Nat) (kq kn : IntKind) (ht : P.underlying t = some (.slice e)) (htn : P.underlying tn = some (.int kn)) (hi : P.info? e = some i) (hz : i.zero = some z)
 (hsize : i.size = 1) (hby : i.bytes = bytes) (hzs : z.cells = #[u]) (hu : u.oneCell' = true)
 (v : Value) (n : Nat) (xs : List Value) (hown : w.ownsRow base e 1 v n xs) (m : Nat)
 (h63 : n + m ≤ maxLen) (hbytes : (n + m) * bytes ≤ 140737488355328) (hbase : base ≤ w.heap.size) :
 ∃ v' w', (Builtin.append_ #[t, tn] ty #[v, .int kq m]).run P w = .ok v' w' ∧ w'.ownsRow base e 1 v' (n + m) (xs ++ List.replicate m u) ∧ w.grownBy w' v.ownBlock ∧
  (v'.ownBlock = v.ownBlock ∨ v'.ownBlock = some w.heap.size) := by
 subst hby
 have hsmall : n + m ≤ 9223372036854775807 := by simp only [maxLen] at h63; omega
 have hlen : (xs ++ List.replicate m u).length = (n + m) * 1 := by rw [List.length_append, hown.1, List.length_replicate]; omega
 have hw : IntKind.i64.wrap (m : Int) = m := by rw [IntKind.wrap_i64]; omega
 have hneg : ¬ ((m : Int) < 0) := by omega
 have hmb : m * i.bytes ≤ (n + m) * i.bytes := Nat.mul_le_mul_right _ (by omega)
 have h48i : ¬ (281474976710656 < (m : Int) * (i.bytes : Int)) := by
  rw [← Int.natCast_mul]
  omega
 have grown : ∀ (old : Nat), old < n + m → ∀ (row : Option Nat),
  (w.drew.alloc (.cells (xs.toArray ++ Builtin.zeroCells z.cells m ++ Builtin.zeroCells z.cells (grownCap w (n + m) old e - (n + m))) e)).ownsRow base e 1
   (.slice (some ⟨w.heap.size, 0, none⟩) (n + m) (grownCap w (n + m) old e)) (n + m) (xs ++ List.replicate m u) ∧
  w.grownBy (w.drew.alloc (.cells (xs.toArray ++ Builtin.zeroCells z.cells m ++ Builtin.zeroCells z.cells (grownCap w (n + m) old e - (n + m))) e)) row := by
  intro old ho row
  have hge := grownCap_ge w (n + m) old e
  have hcm : grownCap w (n + m) old e ≤ maxLen := grownCap_le_maxLen w (n + m) old e h63
  refine ⟨⟨hlen, .inr ⟨w.heap.size, _, _, rfl, hbase, heap_alloc_new w.drew _, hge, hcm, ?_, ?_⟩⟩, ⟨rfl, rfl, rfl, by simp, fun k hk _ => Below.heap_alloc w.drew _ k hk⟩⟩
  ·have h1 := hown.1
   simp only [Array.size_append, List.size_toArray, size_zeroCells, hzs, List.length_nil, List.length_cons]
   omega
  ·simp only [Array.toList_append, List.append_assoc, hzs, zdo]
   rw [← List.append_assoc, ← hlen]
   exact List.take_left
 rcases hown.2 with ⟨rfl, rfl⟩ | ⟨g, cap, cur, rfl, hbg, hg, hnc, hcm, hcs, htake⟩
 ·have hx : xs = [] := List.eq_nil_of_length_eq_zero (by simpa using hown.1)
  subst hx
  by_cases hm : m = 0
  ·subst hm
   refine ⟨.slice none 0 0, w, ?_, World.ownsRow_nil w base e 1, ⟨rfl, rfl, rfl, Nat.le_refl _, fun _ _ _ => rfl⟩, .inl rfl⟩
   have hw0 : IntKind.i64.wrap 0 = 0 := by rw [IntKind.wrap_i64]; omega
   simp [Builtin.append_, run_underlying ht, run_underlying htn, sizeOf, typeInfo, hi, asInt, asIntOf, hw0]
  ·have hr := Lib.run_append_nil_zeros (P := P) w t tn ty e i z kq kn ht htn hi hz m (by omega) (by omega) (by omega) (by omega)
   have hgr := grown 0 (by omega) (Value.ownBlock (.slice none 0 0))
   simp only [Nat.zero_add, List.nil_append, Array.empty_append] at hgr ⊢
   exact ⟨_, _, hr, hgr.1, hgr.2, .inr rfl⟩
 ·by_cases hm : m = 0
  ·subst hm
   refine ⟨.slice (some ⟨g, 0, none⟩) n cap, w, ?_, by simpa using hown, ⟨rfl, rfl, rfl, Nat.le_refl _, fun _ _ _ => rfl⟩, .inl rfl⟩
   have hw0 : IntKind.i64.wrap 0 = 0 := by rw [IntKind.wrap_i64]; omega
   simp [Builtin.append_, run_underlying ht, run_underlying htn, sizeOf, typeInfo, hi, asInt, asIntOf, hw0, hnc, storeCells]
  ·by_cases hroom : n + m ≤ cap
   ·have hfit : n * 1 + (List.replicate m u).length ≤ cur.size := by rw [List.length_replicate, hcs]; omega
    have hst := run_storeCells_at P g n e (List.replicate m u) 0 cur w hg (by simpa using hfit) (fun x hx => by rw [List.eq_of_mem_replicate hx]; exact hu)
    have hzc : (Builtin.zeroCells #[u] m).toList = List.replicate m u := zdo u m
    simp only [Nat.add_zero] at hst
    refine ⟨.slice (some ⟨g, 0, none⟩) (n + m) cap, w.setRow g (cur.toList.take n ++ List.replicate m u ++ cur.toList.drop (n + (List.replicate m u).length)).toArray, ?_, ⟨hlen, .inr ⟨g, cap, _, rfl, hbg, setRow_heap w g cur _ e _ hg, hroom, hcm, ?_, ?_⟩⟩, ⟨rfl, rfl, rfl, by simp, fun k _ hk => setRow_other w g k _ (fun e => hk (by simp [Value.ownBlock, e]))⟩, .inl rfl⟩
    ·simp [Builtin.append_, run_underlying ht, run_underlying htn, sizeOf, typeInfo, zeroValue, hi, hz, asInt, asIntOf, hw, hneg, hm, h48i, hroom, hsize, hzs, hzc, Addr.add_lit, hst]
    ·simp only [List.size_toArray, List.length_append, List.length_take, List.length_drop, Array.length_toList, List.length_replicate]
     simp only [Nat.mul_one, List.length_replicate] at hfit hcs
     omega
    ·have h2 : cur.toList.take n = xs := by rw [← htake, Nat.mul_one]
     rw [h2, ← hlen]
     exact List.take_left
   ·have hold : (Builtin.firstCells i.size n (.slice (some ⟨g, 0, none⟩) n cap)).run P w.drew = .ok xs.toArray w.drew :=
     run_firstCells_some (P := P) w.drew i.size n ⟨g, 0, none⟩ n cap xs (by rw [hsize]; exact hown.1) (hown.cells (g := g) rfl)
    have hr := Lib.run_append_grow_zeros (P := P) w t tn ty e i z kq kn ht htn hi hz (some ⟨g, 0, none⟩) n cap xs hold m (by omega) (by omega) (by omega) (by omega) (by omega) (growslice_fits (by omega) hbytes)
    have hgr := grown cap (by omega) (Value.ownBlock (.slice (some ⟨g, 0, none⟩) n cap))
    exact ⟨_, _, hr, hgr.1, hgr.2, .inr rfl⟩
variable {α : Type} [Inhabited α]
theorem zc6 {ops : Array Oper} {rest : List Oper} {o : Oper} {a : Act} {Q : Exit → Act → World → Prop} (hgd : o.guard = none) (s x : Operand) (t tn : TypeId)
 (ho : o.op = .call { callee := .builtin .append, args := #[s, x], argTypes := #[t, tn] })
 {e : TypeId} {bytes : Nat} (ht : P.underlying t = some (.slice e)) (kn : IntKind) (htn : P.underlying tn = some (.int kn)) (u : Value)
 (hE : ∃ (i : TypeInfo) (z : Value), P.info? e = some i ∧ i.zero = some z ∧ i.size = 1 ∧ i.bytes = bytes ∧ z.cells = #[u]) (hu : u.oneCell' = true) (base : Nat) (enc : α → Nat → Value) (x0 : α) (hx0 : ∀ j, enc x0 j = u)
 (v : Value) (L : List α) (hs : a.eval s = v) (hown : OwnL w base e 1 v enc L)
 (kq : IntKind) (m : Nat) (mi : Int) (hx : a.eval x = .int kq mi) (hmi : mi = m)
 (h63 : L.length + m ≤ maxLen) (hbytes : (L.length + m) * bytes ≤ 140737488355328) (hbase : base ≤ w.heap.size)
 (h : ∀ v' w', OwnL w' base e 1 v' enc (L ++ List.replicate m x0) → Grew w w' v v' → wpList P ops Q rest (a.put o.dst v') w') : wpList P ops Q (o :: rest) a w := by
 obtain ⟨i, z, hi, hz, hsz, hby, hzs⟩ := hE
 subst hmi
 obtain ⟨v', w', hr, h1, h2, h3⟩ := zee (P := P) w base t tn o.type e i z u bytes kq kn ht htn hi hz hsz hby hzs hu v L.length _ hown m h63 hbytes hbase
 refine Lib.wpList_append_run (P := P) w hgd s x t tn ho v _ hs hx v' w' hr (h v' w' ?_ ⟨h2, ?_⟩)
 ·unfold OwnL Own
  have e1 : flat 1 (LF enc (L ++ List.replicate m x0)) (L ++ List.replicate m x0).length = flat 1 (LF enc L) L.length ++ List.replicate m u := by
   have e2 : flat 1 (LF enc (List.replicate m x0)) (List.replicate m x0).length = List.replicate m u := by
    apply List.ext_getElem?
    intro j
    by_cases hj : j < m
    ·rw [flat_get _ _ _ _ (by simpa using hj)]
     simp [LF, List.getD_eq_getElem?_getD, hj, hx0]
    ·rw [List.getElem?_eq_none (by rw [zaN]; simp; omega), List.getElem?_eq_none (by simp; omega)]
   rw [← e2, ze1, zo0, List.length_append]
  rw [e1, List.length_append, List.length_replicate]
  exact h1
 ·rcases h3 with h3 | h3
  ·exact .inl h3
  ·exact .inr ⟨_, h3, Nat.le_refl _⟩
end
end Go.Proofs.YtaghmffgoomebaaGreat.Mem
namespace Go.Proofs.YtaghmffgoomebaaGreat.Bytes
def le (n : Int) (k : Nat) : List Int := (List.range k).map fun i => n / 256 ^ i % 256
theorem zaL (n : Int) (k : Nat) : (le n k).length = k := by simp [le]
theorem le_zero (n : Int) : le n 0 = [] := rfl
theorem zpy (n : Int) (k : Nat) : le n (k + 1) = le n k ++ [n / 256 ^ k % 256] := by simp [le, List.range_succ]
theorem zlw (n : Int) (k : Nat) : le n (k + 1) = n % 256 :: le (n / 256) k := by
 unfold le
 rw [List.range_succ_eq_map, List.map_cons, List.map_map]
 simp only [Int.pow_zero, Int.ediv_one, List.cons.injEq, true_and]
 apply List.map_congr_left
 intro i _
 show n / 256 ^ (i + 1) % 256 = n / 256 / 256 ^ i % 256
 rw [Int.pow_succ, Int.mul_comm, Int.ediv_ediv_of_nonneg (by decide)]
def IsB (L : List Int) : Prop := ∀ x ∈ L, 0 ≤ x ∧ x ≤ 255
theorem zfv (n : Int) (k : Nat) : IsB (le n k) := by
 intro x hx
 simp only [le, List.mem_map] at hx
 obtain ⟨i, _, rfl⟩ := hx
 have h1 := Int.emod_nonneg (n / 256 ^ i) (show (256 : Int) ≠ 0 by decide)
 have h2 := Int.emod_lt_of_pos (n / 256 ^ i) (show (0 : Int) < 256 by decide)
 omega
theorem IsB.append {L M : List Int} (h : IsB L) (h' : IsB M) : IsB (L ++ M) := fun x hx => (List.mem_append.1 hx).elim (h x) (h' x)
theorem IsB.take {L : List Int} (h : IsB L) (k : Nat) : IsB (L.take k) := fun x hx => h x (List.mem_of_mem_take hx)
theorem IsB.drop {L : List Int} (h : IsB L) (k : Nat) : IsB (L.drop k) := fun x hx => h x (List.mem_of_mem_drop hx)
theorem IsB.nil : IsB [] := fun x hx => by cases hx
theorem IsB.cons {a : Int} {L : List Int} (h : 0 ≤ a ∧ a ≤ 255) (h' : IsB L) : IsB (a :: L) := fun x hx => by
 rcases List.mem_cons.1 hx with rfl | hx
 ·exact h
 ·exact h' x hx
theorem IsB.replicate (n : Nat) : IsB (List.replicate n 0) := fun x hx => by
 have := List.eq_of_mem_replicate hx
 omega
def num : List Int → Int
 | [] => 0
 | c :: l => c + 256 * num l
theorem znu (l : List Int) (c : Int) : num (l ++ [c]) = num l + c * 256 ^ l.length := by
 induction l with
 | nil => simp [num]
 | cons a l ih =>
   rw [List.cons_append, num, ih, num, List.length_cons, Int.pow_succ]
   have : c * (256 ^ l.length * 256) = 256 * (c * 256 ^ l.length) := by rw [← Int.mul_assoc, Int.mul_comm]
   rw [this]
   omega
theorem zca {l : List Int} (h : IsB l) : 0 ≤ num l ∧ num l < 256 ^ l.length := by
 induction l with
 | nil => simp [num]
 | cons a l ih =>
   have h1 := ih fun x hx => h x (by simp [hx])
   have h2 := h a (by simp)
   rw [num, List.length_cons, Int.pow_succ]
   omega
theorem zb9 (k : Nat) : (0 : Int) < 256 ^ k := Int.pow_pos (by decide)
theorem zmk (n m : Int) (hm : 0 < m) : n % 256 + 256 * (n / 256 % m) = n % (256 * m) := by
 have h1 := Int.emod_add_mul_ediv n 256
 have h2 := Int.emod_add_mul_ediv (n / 256) m
 have b1 := Int.emod_nonneg n (show (256 : Int) ≠ 0 by decide)
 have b2 := Int.emod_lt_of_pos n (show (0 : Int) < 256 by decide)
 have b3 := Int.emod_nonneg (n / 256) (show m ≠ 0 by omega)
 have b4 := Int.emod_lt_of_pos (n / 256) hm
 have e : n = (n % 256 + 256 * (n / 256 % m)) + 256 * m * (n / 256 / m) := by
  have : 256 * (n / 256) = 256 * (n / 256 % m) + 256 * m * (n / 256 / m) := by
   rw [Int.mul_assoc, ← Int.mul_add, h2]
  omega
 have h3 : n % (256 * m) = (n % 256 + 256 * (n / 256 % m)) % (256 * m) := by
  conv => lhs; rw [e]
  rw [Int.add_mul_emod_self_left]
 rw [h3]
 exact (Int.emod_eq_of_lt (by omega) (by omega)).symm
theorem zoH (n : Int) (h : 0 ≤ n) (k : Nat) : num (le n k) = n % 256 ^ k := by
 induction k generalizing n with
 | zero => simp [le, num, Int.emod_one]
 | succ k ih =>
   rw [zlw, num, ih (n / 256) (Int.ediv_nonneg h (by decide)), Int.pow_succ, Int.mul_comm (256 ^ k) 256, zmk _ _ (zb9 k)]
theorem zoR {L : List Int} (h : IsB L) : le (num L) L.length = L := by
 induction L with
 | nil => rfl
 | cons a l ih =>
   have h2 := h a (by simp)
   rw [List.length_cons, zlw, num]
   have h3 : (a + 256 * num l) % 256 = a := by omega
   have h4 : (a + 256 * num l) / 256 = num l := by omega
   rw [h3, h4, ih fun x hx => h x (by simp [hx])]
theorem zpo {L M : List Int} (h : IsB L) (h' : IsB M) (hl : L.length = M.length) (e : num L = num M) : L = M := by
 rw [← zoR h, ← zoR h', e, hl]
theorem zeD (k m : Nat) (h : k ≤ m) : (256 : Int) ^ m = 256 ^ k * 256 ^ (m - k) := by rw [← Int.pow_add]; congr 1; omega
theorem zpn {l : List Int} (h : IsB l) (hl : l.length ≤ 8) : num l < 18446744073709551616 := by
 have h1 := (zca h).2
 have h2 : (256 : Int) ^ l.length ≤ 256 ^ 8 := by
  rw [zeD l.length 8 hl]
  have := zb9 (8 - l.length)
  have h3 := zb9 l.length
  have := Int.mul_le_mul_of_nonneg_left (show (1 : Int) ≤ 256 ^ (8 - l.length) by omega) (show (0 : Int) ≤ 256 ^ l.length by omega)
  omega
 have : (256 : Int) ^ 8 = 18446744073709551616 := by decide
 omega
theorem zf9 {L : List Int} {k : Nat} {x : Int} (h : L[k]? = some x) : num (L.take (k + 1)) = num (L.take k) + x * 256 ^ k := by
 have hk : k < L.length := by
  rcases Nat.lt_or_ge k L.length with h' | h'
  ·exact h'
  ·rw [List.getElem?_eq_none h'] at h; cases h
 rw [List.take_add_one, h, Option.toList_some, znu, List.length_take, Nat.min_eq_left (by omega)]
theorem znv {L : List Int} {k : Nat} {x : Int} (h : L[k]? = some x) : num (L.drop k) = x + 256 * num (L.drop (k + 1)) := by
 have hk : k < L.length := by
  rcases Nat.lt_or_ge k L.length with h' | h'
  ·exact h'
  ·rw [List.getElem?_eq_none h'] at h; cases h
 rw [List.drop_eq_getElem_cons hk]
 rw [List.getElem?_eq_getElem hk] at h
 injection h with h
 rw [h]; rfl
end Go.Proofs.YtaghmffgoomebaaGreat.Bytes
namespace Go.Proofs.YtaghmffgoomebaaGreat.Crc
def poly : Nat := 3988292384
def sh (n : Nat) : Nat := if n % 2 = 1 then (n / 2) ^^^ poly else n / 2
def shs : Nat → Nat → Nat
 | 0, n => n
 | k + 1, n => sh (shs k n)
def turnN (n c : Nat) : Nat := shs 8 (n ^^^ c)
theorem zfJ {a b : Nat} (ha : a < 4294967296) (hb : b < 4294967296) : a ^^^ b < 4294967296 := Nat.xor_lt_two_pow (n := 32) (x := a) (y := b) ha hb
theorem zpj : poly < 4294967296 := by decide
theorem sh_lt {n : Nat} (h : n < 4294967296) : sh n < 4294967296 := by
 unfold sh
 split
 ·exact zfJ (by omega) (by decide)
 ·omega
theorem zoA {n k : Nat} (h : n < 4294967296) : shs k n < 4294967296 := by
 induction k with
 | zero => exact h
 | succ k ih => exact sh_lt ih
theorem zo4 {n c : Nat} (h : n < 4294967296) (hc : c < 256) : turnN n c < 4294967296 := by
 unfold turnN
 exact zoA (zfJ h (by omega))
def crcL (n : Nat) (l : List Nat) : Nat := l.foldl turnN n
theorem zjA (n : Nat) : crcL n [] = n := by unfold crcL; rw [List.foldl_nil]
theorem zmv (n : Nat) (l : List Nat) (c : Nat) : crcL n (l ++ [c]) = turnN (crcL n l) c := by
 unfold crcL; rw [List.foldl_append, List.foldl_cons, List.foldl_nil]
theorem zmw (n : Nat) (l : List Nat) (c : Nat) : crcL n (c :: l) = crcL (turnN n c) l := by
 unfold crcL; rw [List.foldl_cons]
theorem zp5 {n : Nat} {l : List Nat} (h : n < 4294967296) (hl : ∀ c ∈ l, c < 256) : crcL n l < 4294967296 := by
 induction l generalizing n with
 | nil => rw [zjA]; exact h
 | cons c l ih => rw [zmw]; exact ih (zo4 h (hl c (by simp))) (fun d hd => hl d (by simp [hd]))
end Go.Proofs.YtaghmffgoomebaaGreat.Crc
