/- Where each timer stands, as the code's map tells it. -/
import Derived.Test.YtgpfedmfbkhhcaaDu1
import Derived.Test.YtgpfedmfbkhhcaaGxQ
namespace Go.Proofs.Ytgpfedmfbkhhcaa.Du
open Go.RowKit Mem Gx Hp
set_option linter.unusedVariables false
set_option linter.unusedSimpArgs false
set_option maxRecDepth 100000
set_option maxHeartbeats 1000000
abbrev Keys (L : List Tim) : Prop := (L.map Tim.key).Nodup
def idx (L : List Tim) (p : Int × Int) : Option Nat := L.findIdx? fun x => decide (x.key = p)
/-- Where the timer of a kind and a number stands. -/
def posT (L : List Tim) (p : Int × Int) : Option Value := (idx L p).map fun (i : Nat) => .int .i64 (i : Int)
theorem idx_none {L : List Tim} {p : Int × Int} : idx L p = none ↔ p ∉ L.map Tim.key := by
  unfold idx
  rw [List.findIdx?_eq_none_iff]
  constructor
  · intro h hp
    obtain ⟨x, hx, e⟩ := List.mem_map.1 hp
    have := h x hx
    simp at this
    exact this e
  · intro h x hx
    have : x.key ≠ p := fun e => h (List.mem_map.2 ⟨x, hx, e⟩)
    simpa using this
theorem idx_some {L : List Tim} (hn : Keys L) {i : Nat} {x : Tim} (hx : L[i]? = some x) : idx L x.key = some i := by
  obtain ⟨hi, ex⟩ := List.getElem?_eq_some_iff.1 hx
  unfold idx
  rw [List.findIdx?_eq_some_iff_getElem]
  refine ⟨hi, by rw [ex]; simp, fun j hj => ?_⟩
  have h1 := List.pairwise_iff_getElem.1 (List.nodup_iff_pairwise_ne.1 hn) j i (by simp; omega) (by simpa using hi) hj
  simp only [List.getElem_map] at h1
  rw [ex] at h1
  simpa using h1
theorem idx_get {L : List Tim} {p : Int × Int} {i : Nat} (h : idx L p = some i) : ∃ x, L[i]? = some x ∧ x.key = p := by
  unfold idx at h
  obtain ⟨hi, h1, _⟩ := List.findIdx?_eq_some_iff_getElem.1 h
  exact ⟨L[i], List.getElem?_eq_getElem hi, by simpa using h1⟩
theorem Keys.perm {L L' : List Tim} (h : Keys L) (hp : L'.Perm L) : Keys L' := (hp.map Tim.key).nodup_iff.2 h
theorem idx_eq {L : List Tim} {p : Int × Int} {o : Option Nat} (hn : Keys L) (h : ∀ i, o = some i → ∃ x, L[i]? = some x ∧ x.key = p) (h0 : o = none → p ∉ L.map Tim.key) : idx L p = o := by
  cases o with
  | none => exact idx_none.2 (h0 rfl)
  | some i =>
    obtain ⟨x, hx, e⟩ := h i rfl
    rw [← e]
    exact idx_some hn hx
theorem idx_swp {L : List Tim} (hn : Keys L) {i j : Nat} {x y : Tim} (hx : L[i]? = some x) (hy : L[j]? = some y) (p : Int × Int) : idx (swp L i j x y) p = if p = x.key then some j else if p = y.key then some i else idx L p := by
  have hi := (List.getElem?_eq_some_iff.1 hx).1
  have hj := (List.getElem?_eq_some_iff.1 hy).1
  have hp := swp_perm hx hy
  have hg : ∀ k, (swp L i j x y)[k]? = if k = j then some x else if k = i then some y else L[k]? := fun k => swp_get hi hj
  refine idx_eq (hn.perm hp) (fun k hk => ?_) (fun h0 => ?_)
  · by_cases e1 : p = x.key
    · rw [if_pos e1] at hk
      obtain rfl := Option.some.inj hk
      exact ⟨x, by rw [hg, if_pos rfl], e1.symm⟩
    · rw [if_neg e1] at hk
      by_cases e2 : p = y.key
      · rw [if_pos e2] at hk
        obtain rfl := Option.some.inj hk
        by_cases e3 : i = j
        · subst e3
          rw [hx] at hy
          obtain rfl := Option.some.inj hy
          exact absurd e2 e1
        · exact ⟨y, by rw [hg, if_neg e3, if_pos rfl], e2.symm⟩
      · rw [if_neg e2] at hk
        obtain ⟨z, hz, ez⟩ := idx_get hk
        refine ⟨z, ?_, ez⟩
        rw [hg, if_neg, if_neg]
        · exact hz
        · intro e; subst e; rw [hx] at hz; obtain rfl := Option.some.inj hz; exact e1 ez.symm
        · intro e; subst e; rw [hy] at hz; obtain rfl := Option.some.inj hz; exact e2 ez.symm
  · rw [(hp.map Tim.key).mem_iff]
    split at h0
    · cases h0
    · split at h0
      · cases h0
      · exact idx_none.1 h0
theorem idx_snoc {L : List Tim} {x : Tim} (hn : Keys (L ++ [x])) (p : Int × Int) : idx (L ++ [x]) p = if p = x.key then some L.length else idx L p := by
  refine idx_eq hn (fun k hk => ?_) (fun h0 => ?_)
  · split at hk
    · rename_i e
      obtain rfl := Option.some.inj hk
      exact ⟨x, by simp, e.symm⟩
    · obtain ⟨z, hz, ez⟩ := idx_get hk
      exact ⟨z, by rw [List.getElem?_append_left (List.getElem?_eq_some_iff.1 hz).1]; exact hz, ez⟩
  · split at h0
    · cases h0
    · rename_i e
      rw [List.map_append, List.mem_append]
      rintro (h | h)
      · exact idx_none.1 h0 h
      · exact e (by simpa using h)
theorem Keys.snoc {L : List Tim} {x : Tim} (h : Keys (L ++ [x])) : Keys L ∧ x.key ∉ L.map Tim.key := by
  unfold Keys at *
  rw [List.map_append, List.nodup_append] at h
  exact ⟨h.1, fun hx => h.2.2 x.key hx x.key (by simp) rfl⟩
theorem idx_init {L : List Tim} {x : Tim} (hn : Keys (L ++ [x])) (p : Int × Int) : idx L p = if p = x.key then none else idx (L ++ [x]) p := by
  rw [idx_snoc hn]
  by_cases e : p = x.key
  · rw [if_pos e, e]; exact idx_none.2 hn.snoc.2
  · rw [if_neg e, if_neg e]
theorem idx_set {L : List Tim} {i : Nat} {x y : Tim} (hx : L[i]? = some x) (hk : y.key = x.key) (p : Int × Int) : idx (L.set i y) p = idx L p := by
  have hm : (L.set i y).map Tim.key = L.map Tim.key := by
    apply List.ext_getElem?
    intro m
    simp only [List.getElem?_map, List.getElem?_set]
    obtain ⟨hi, ex⟩ := List.getElem?_eq_some_iff.1 hx
    by_cases e : i = m
    · subst e
      rw [if_pos rfl, if_pos hi, hx]
      simp [hk]
    · rw [if_neg e]
  have h2 : ∀ M : List Tim, idx M p = (M.map Tim.key).findIdx? fun q => decide (q = p) := fun M => by
    unfold idx
    rw [List.findIdx?_map]
    rfl
  rw [h2, h2, hm]
theorem keys_set1 {L : List Tim} {i : Nat} {x y : Tim} (hx : L[i]? = some x) (hk : y.key = x.key) : (L.set i y).map Tim.key = L.map Tim.key := by
  apply List.ext_getElem?
  intro m
  simp only [List.getElem?_map, List.getElem?_set]
  obtain ⟨hi, ex⟩ := List.getElem?_eq_some_iff.1 hx
  by_cases e : i = m
  · subst e
    rw [if_pos rfl, if_pos hi, hx]
    simp [hk]
  · rw [if_neg e]
/-- The map that tells where each timer stands. -/
def mpx (r : Nat) (L : List Tim) : Fact := exF (fun b => b = r) (fun M => MapIs M (posT L)) (fun M => mpk r (pairV .i64) M) (fun _ _ => rfl)
section
variable {X : Cx} {f : Fr} {O O' R : List Fact} {ks : List KI} {r : Nat} {L : List Tim}
theorem gk_mpxE (hs : Sel (mpx r L) O O') (hg : ∀ M, MapIs M (posT L) → GK X ks f (mpk r (pairV .i64) M :: O') R) : GK X ks f O R := gk_exE (ψ := fun M => mpk r (pairV .i64) M) hs hg
theorem gk_mpxI {M : List ((Int × Int) × Value)} (hM : MapIs M (posT L)) (hs : Sel (mpk r (pairV .i64) M) O O') (hg : GK X ks f (mpx r L :: O') R) : GK X ks f O R := gk_exI (ψ := fun M => mpk r (pairV .i64) M) M hM hs hg
end
theorem posT_of {L L' : List Tim} {p : Int × Int} {o : Option Nat} (h : idx L p = o) : posT L p = o.map fun (i : Nat) => .int .i64 (i : Int) := by unfold posT; rw [h]
theorem map_swp {L : List Tim} {M : List ((Int × Int) × Value)} (hn : Keys L) (h : MapIs M (posT L)) {i j : Nat} {x y : Tim} (hx : L[i]? = some x) (hy : L[j]? = some y) : MapIs (msG x.key (.int .i64 (j : Int)) (msG y.key (.int .i64 (i : Int)) M)) (posT (swp L i j x y)) := by
  have h1 : MapIs (msG y.key (.int .i64 (i : Int)) M) (fun p => if p = y.key then some (.int .i64 (i : Int)) else posT L p) := h.set fun _ => rfl
  refine h1.set fun p => ?_
  unfold posT
  rw [idx_swp hn hx hy p]
  by_cases e1 : p = x.key
  · rw [if_pos e1, if_pos e1]; rfl
  · rw [if_neg e1, if_neg e1]
    by_cases e2 : p = y.key
    · rw [if_pos e2, if_pos e2]; rfl
    · rw [if_neg e2, if_neg e2]
theorem map_snoc {L : List Tim} {M : List ((Int × Int) × Value)} {x : Tim} (hn : Keys (L ++ [x])) (h : MapIs M (posT L)) : MapIs (msG x.key (.int .i64 (L.length : Int)) M) (posT (L ++ [x])) :=
  h.set fun p => by
    unfold posT
    rw [idx_snoc hn p]
    by_cases e : p = x.key
    · rw [if_pos e, if_pos e]; rfl
    · rw [if_neg e, if_neg e]
theorem map_init {L : List Tim} {M : List ((Int × Int) × Value)} {x : Tim} (hn : Keys (L ++ [x])) (h : MapIs M (posT (L ++ [x]))) : MapIs (mdG x.key M) (posT L) :=
  h.del fun p => by
    unfold posT
    rw [idx_init hn p]
    by_cases e : p = x.key
    · rw [if_pos e, if_pos e]; rfl
    · rw [if_neg e, if_neg e]
theorem map_set {L : List Tim} {M : List ((Int × Int) × Value)} {i : Nat} {x y : Tim} (hx : L[i]? = some x) (hk : y.key = x.key) (h : MapIs M (posT L)) : MapIs M (posT (L.set i y)) :=
  h.congr fun p => by unfold posT; rw [idx_set hx hk]
theorem map_at {L : List Tim} {M : List ((Int × Int) × Value)} (hn : Keys L) (h : MapIs M (posT L)) {i : Nat} {x : Tim} (hx : L[i]? = some x) : mg x.key M = some (.int .i64 (i : Int)) := by
  rw [h.get]
  unfold posT
  rw [idx_some hn hx]
  rfl
theorem check_name (b : Bool) (p : Int × Int) (w : World) : (Instr.checkKey b 10000 125 (pairV .i64 p)).run Try.prog w = .ok () w := by kernel_rfl
theorem kok_name : KOk Try.prog 125 (pairV .i64) := kok_pair Try.underlying125 (by kernel_rfl) (by kernel_rfl) check_name
end Go.Proofs.Ytgpfedmfbkhhcaa.Du

