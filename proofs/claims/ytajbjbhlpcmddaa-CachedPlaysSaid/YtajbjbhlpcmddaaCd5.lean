/- The law's states (layer 64), plain: what is kept is what the cache has. -/
import Derived.Test.YtajbjbhlpcmddaaCd4
namespace Go.Proofs.Ytajbjbhlpcmddaa.Dk
open Go.RowKit Mem Gx Bytes
set_option linter.unusedVariables false
set_option linter.unusedSimpArgs false
set_option maxRecDepth 100000
set_option maxHeartbeats 1000000
structure St where
  sv : Value
  lv : Value
  sv2 : Value
  lv2 : Value
  S : List SecD
  S2 : List SecD
  W : List WrD
  W2 : List WrD
  M : List Itm
  K : List Itm
  now : Nat
  hit : Nat
  miss : Nat
/-- A page that is kept is what the disk has. -/
def ItOk (n : Nat) (S : List SecD) (W : List WrD) (p : Itm) : Prop := ∃ a : Nat, p.1 = (a : Int) ∧ a < n ∧ p.2.Ok ∧ p.2.L = dread (S.map SecD.L) (W.map WrD.c) a
structure StI (n mo i : Nat) (s : St) : Prop where
  o1 : DkOk s.S s.W
  o2 : DkOk s.S2 s.W2
  n1 : s.S.length = n
  n2 : s.S2.length = n
  eS : s.S.map SecD.L = s.S2.map SecD.L
  eW : s.W.map WrD.c = s.W2.map WrD.c
  li : LInv s.M s.K s.now
  km : s.K.length ≤ mo
  it : ∀ p ∈ s.K, ItOk n s.S s.W p
  wl : s.W.length ≤ i
  nw : s.now ≤ i
  ht : s.hit ≤ i
  ms : s.miss ≤ i
theorem StI.w2 {n mo i : Nat} {s : St} (h : StI n mo i s) : s.W2.length = s.W.length := by
  have := congrArg List.length h.eW
  rw [List.length_map, List.length_map] at this
  exact this.symm
abbrev keys (K : List Itm) : List Int := K.map (·.1)
theorem rmv_len_mem {q : Int} : ∀ {K : List Itm}, (keys K).Nodup → q ∈ keys K → (rmv q K).length + 1 = K.length
  | [], _, h => by cases h
  | (a, x) :: r, hn, h => by
    obtain ⟨h1, h2⟩ := List.nodup_cons.1 hn
    by_cases e : q = a
    · subst e
      rw [rmv_cons_eq, rmv_no h1]
      rfl
    · rw [rmv_cons_ne x r e, List.length_cons, List.length_cons]
      rcases List.mem_cons.1 h with h3 | h3
      · exact absurd h3 e
      · rw [rmv_len_mem h2 h3]
theorem rmv_len_le (q : Int) (K : List Itm) : (rmv q K).length ≤ K.length := List.length_filter_le ..
theorem trim_le {mo : Nat} {K : List Itm} (h : K.length ≤ mo + 1) : (trim mo K).length ≤ mo := by
  unfold trim
  split
  · rw [List.length_tail]; omega
  · omega
theorem trim_mem {mo : Nat} {K : List Itm} {p : Itm} (h : p ∈ trim mo K) : p ∈ K := by
  unfold trim at h
  split at h
  · exact List.mem_of_mem_tail h
  · exact h
theorem StI.step {n mo i : Nat} {s : St} (h : StI n mo i s) : StI n mo (i + 1) s := ⟨h.o1, h.o2, h.n1, h.n2, h.eS, h.eW, h.li, h.km, h.it, by have := h.wl; omega, by have := h.nw; omega, by have := h.ht; omega, by have := h.ms; omega⟩
theorem StI.start {n mo : Nat} {sv sv2 : Value} {S S2 : List SecD} (hS : ∀ d ∈ S, d.Ok) (hS2 : ∀ d ∈ S2, d.Ok) (h1 : S.map SecD.L = List.replicate n zsec) (h2 : S2.map SecD.L = List.replicate n zsec) (hn : n ≤ 4096) : StI n mo 0 ⟨sv, .slice none 0 0, sv2, .slice none 0 0, S, S2, [], [], [], [], 0, 0, 0⟩ := by
  have l1 : S.length = n := by have := congrArg List.length h1; rwa [List.length_map, List.length_replicate] at this
  have l2 : S2.length = n := by have := congrArg List.length h2; rwa [List.length_map, List.length_replicate] at this
  exact ⟨⟨hS, fun y hy => (by cases hy), (by show S.length ≤ 4096; omega)⟩, ⟨hS2, fun y hy => (by cases hy), (by show S2.length ≤ 4096; omega)⟩, l1, l2, h1.trans h2.symm, rfl, LInv.empty 0, Nat.zero_le _, fun p hp => (by cases hp), Nat.le_refl _, Nat.le_refl _, Nat.le_refl _, Nat.le_refl _⟩
theorem DkOk.snoc {S : List SecD} {W : List WrD} {a : Nat} {d : SecD} (h : DkOk S W) (hd : d.Ok) (ha : a < S.length) : DkOk S (W ++ [(⟨a, d⟩ : WrD)]) := ⟨h.s, fun x hx => by
  rcases List.mem_append.1 hx with hx | hx
  · exact h.w x hx
  · obtain rfl := List.mem_singleton.1 hx
    exact ⟨hd, ha⟩, h.n⟩
theorem StI.write {n mo i : Nat} {sv lv sv2 lv2 : Value} {S S2 : List SecD} {W W2 : List WrD} {M K : List Itm} {now hit miss : Nat} {lv' lv2' : Value} {a : Nat} {d d2 : SecD} {B : List Int} (h : StI n mo i ⟨sv, lv, sv2, lv2, S, S2, W, W2, M, K, now, hit, miss⟩) (ha : a < n) (hd : d.Ok ∧ d.L = B) (hd2 : d2.Ok ∧ d2.L = B) :
    StI n mo (i + 1) ⟨sv, lv', sv2, lv2', S, S2, W ++ [(⟨a, d⟩ : WrD)], W2 ++ [(⟨a, d2⟩ : WrD)], delI a M, rmv a K, now, hit, miss⟩ := by
  have n1 : S.length = n := h.n1
  have n2 : S2.length = n := h.n2
  have wl : W.length ≤ i := h.wl
  have hkm : K.length ≤ mo := h.km
  have hr := rmv_len_le a K
  refine ⟨DkOk.snoc h.o1 hd.1 (by show a < S.length; omega), DkOk.snoc h.o2 hd2.1 (by show a < S2.length; omega), n1, n2, h.eS, ?_, h.li.del a, Nat.le_trans hr hkm, fun p hp => ?_, ?_, by have := h.nw; exact Nat.le_succ_of_le this, by have := h.ht; exact Nat.le_succ_of_le this, by have := h.ms; exact Nat.le_succ_of_le this⟩
  · show (W ++ [(⟨a, d⟩ : WrD)]).map WrD.c = (W2 ++ [(⟨a, d2⟩ : WrD)]).map WrD.c
    rw [List.map_append, List.map_append, show W.map WrD.c = W2.map WrD.c from h.eW]
    show _ ++ [(a, d.L)] = _ ++ [(a, d2.L)]
    rw [hd.2, hd2.2]
  · obtain ⟨hp1, hp2⟩ := mem_rmv hp
    obtain ⟨b, e1, e2, e3, e4⟩ := h.it p hp1
    refine ⟨b, e1, e2, e3, ?_⟩
    show _ = dread (S.map SecD.L) ((W ++ [(⟨a, d⟩ : WrD)]).map WrD.c) b
    rw [List.map_append, e4]
    show _ = dread _ (_ ++ [((⟨a, d⟩ : WrD)).c]) b
    rw [dread_snoc, if_neg (show ¬ a = b from fun e => hp2 (by rw [e1, ← e]))]
  · show (W ++ [(⟨a, d⟩ : WrD)]).length ≤ i + 1
    rw [List.length_append, List.length_singleton]
    omega
theorem StI.flush {n mo i : Nat} {sv lv sv2 lv2 : Value} {S S2 : List SecD} {W W2 : List WrD} {M K : List Itm} {now hit miss : Nat} {sv' sv2' lv' lv2' : Value} {T T2 : List SecD} (h : StI n mo i ⟨sv, lv, sv2, lv2, S, S2, W, W2, M, K, now, hit, miss⟩)
    (h1 : (∀ d ∈ T, d.Ok) ∧ T.length = S.length ∧ T.map SecD.L = eachC (fun _ => true) 0 (W.map WrD.c) (S.map SecD.L)) (h2 : (∀ d ∈ T2, d.Ok) ∧ T2.length = S2.length ∧ T2.map SecD.L = eachC (fun _ => true) 0 (W2.map WrD.c) (S2.map SecD.L)) :
    StI n mo (i + 1) ⟨sv', lv', sv2', lv2', T, T2, [], [], M, K, now, hit, miss⟩ := by
  have n1 : S.length = n := h.n1
  have n2 : S2.length = n := h.n2
  have eS : S.map SecD.L = S2.map SecD.L := h.eS
  have eW : W.map WrD.c = W2.map WrD.c := h.eW
  refine ⟨⟨h1.1, fun x hx => (by cases hx), by show T.length ≤ 4096; rw [h1.2.1]; exact h.o1.n⟩, ⟨h2.1, fun x hx => (by cases hx), by show T2.length ≤ 4096; rw [h2.2.1]; exact h.o2.n⟩, h1.2.1.trans n1, h2.2.1.trans n2, by rw [h1.2.2, h2.2.2, eS, eW], rfl, h.li, h.km, fun p hp => ?_, Nat.zero_le _, Nat.le_succ_of_le h.nw, Nat.le_succ_of_le h.ht, Nat.le_succ_of_le h.ms⟩
  obtain ⟨b, e1, e2, e3, e4⟩ := h.it p hp
  refine ⟨b, e1, e2, e3, ?_⟩
  show _ = dread (T.map SecD.L) [] b
  rw [h1.2.2, flush_dread _ _ _ (by rw [List.length_map]; omega), e4]
theorem StI.crash {n mo i : Nat} {sv lv sv2 lv2 : Value} {S S2 : List SecD} {W W2 : List WrD} {M K : List Itm} {now hit miss : Nat} {sv' sv2' lv' lv2' : Value} {T T2 : List SecD} {f : Nat → Bool} (h : StI n mo i ⟨sv, lv, sv2, lv2, S, S2, W, W2, M, K, now, hit, miss⟩)
    (h1 : (∀ d ∈ T, d.Ok) ∧ T.length = S.length ∧ T.map SecD.L = eachC f 0 (W.map WrD.c) (S.map SecD.L)) (h2 : (∀ d ∈ T2, d.Ok) ∧ T2.length = S2.length ∧ T2.map SecD.L = eachC f 0 (W2.map WrD.c) (S2.map SecD.L)) :
    StI n mo (i + 1) ⟨sv', lv', sv2', lv2', T, T2, [], [], [], [], now, hit, miss⟩ := by
  have n1 : S.length = n := h.n1
  have n2 : S2.length = n := h.n2
  have eS : S.map SecD.L = S2.map SecD.L := h.eS
  have eW : W.map WrD.c = W2.map WrD.c := h.eW
  exact ⟨⟨h1.1, fun x hx => (by cases hx), by show T.length ≤ 4096; rw [h1.2.1]; exact h.o1.n⟩, ⟨h2.1, fun x hx => (by cases hx), by show T2.length ≤ 4096; rw [h2.2.1]; exact h.o2.n⟩, h1.2.1.trans n1, h2.2.1.trans n2, by rw [h1.2.2, h2.2.2, eS, eW], rfl, LInv.empty now, Nat.zero_le _, fun p hp => (by cases hp), Nat.zero_le _, Nat.le_succ_of_le h.nw, Nat.le_succ_of_le h.ht, Nat.le_succ_of_le h.ms⟩
theorem StI.bad {n mo i : Nat} {sv lv sv2 lv2 : Value} {S S2 : List SecD} {W W2 : List WrD} {M K : List Itm} {now hit miss : Nat} (h : StI n mo i ⟨sv, lv, sv2, lv2, S, S2, W, W2, M, K, now, hit, miss⟩) : StI n mo (i + 1) ⟨sv, lv, sv2, lv2, S, S2, W, W2, M, K, now, hit, miss + 1⟩ :=
  ⟨h.o1, h.o2, h.n1, h.n2, h.eS, h.eW, h.li, h.km, h.it, Nat.le_succ_of_le h.wl, Nat.le_succ_of_le h.nw, Nat.le_succ_of_le h.ht, Nat.succ_le_succ h.ms⟩
theorem StI.item {n mo i : Nat} {sv lv sv2 lv2 : Value} {S S2 : List SecD} {W W2 : List WrD} {M K : List Itm} {now hit miss : Nat} {q : Int} {x : ItD} (h : StI n mo i ⟨sv, lv, sv2, lv2, S, S2, W, W2, M, K, now, hit, miss⟩) (hg : getI q M = some x) : ItOk n S W (q, x) := h.it _ (h.li.get hg)
theorem StI.hitS {n mo i : Nat} {sv lv sv2 lv2 : Value} {S S2 : List SecD} {W W2 : List WrD} {M K : List Itm} {now hit miss : Nat} {q : Int} {x : ItD} (h : StI n mo i ⟨sv, lv, sv2, lv2, S, S2, W, W2, M, K, now, hit, miss⟩) (hg : getI q M = some x) :
    StI n mo (i + 1) ⟨sv, lv, sv2, lv2, S, S2, W, W2, setI q ⟨x.s, x.L, now + 1⟩ M, rmv q K ++ [(q, (⟨x.s, x.L, now + 1⟩ : ItD))], now + 1, hit + 1, miss⟩ := by
  have hm := h.li.get hg
  have hk : q ∈ keys K := List.mem_map.2 ⟨_, hm, rfl⟩
  have hr : (rmv q K).length + 1 = K.length := rmv_len_mem h.li.nod hk
  have hkm : K.length ≤ mo := h.km
  refine ⟨h.o1, h.o2, h.n1, h.n2, h.eS, h.eW, h.li.set q ⟨x.s, x.L, now + 1⟩ rfl, ?_, fun p hp => ?_, Nat.le_succ_of_le h.wl, Nat.succ_le_succ h.nw, Nat.succ_le_succ h.ht, Nat.le_succ_of_le h.ms⟩
  · show (rmv q K ++ [(q, (⟨x.s, x.L, now + 1⟩ : ItD))]).length ≤ mo
    rw [List.length_append, List.length_singleton]
    omega
  · rcases List.mem_append.1 hp with hp | hp
    · exact h.it p (mem_rmv hp).1
    · obtain rfl := List.mem_singleton.1 hp
      obtain ⟨b, e1, e2, e3, e4⟩ := h.it _ hm
      exact ⟨b, e1, e2, ⟨e3.s, e3.k⟩, e4⟩
theorem StI.missS {n mo i : Nat} {sv lv sv2 lv2 : Value} {S S2 : List SecD} {W W2 : List WrD} {M K M' : List Itm} {now hit miss : Nat} {a : Nat} {s : SlV} (h : StI n mo i ⟨sv, lv, sv2, lv2, S, S2, W, W2, M, K, now, hit, miss⟩) (hg : getI (a : Int) M = none) (ha : a < n) (hs : s.Ok (dread (S.map SecD.L) (W.map WrD.c) a).length)
    (hi : LInv M' (trim mo (rmv a K ++ [((a : Int), (⟨s, dread (S.map SecD.L) (W.map WrD.c) a, now + 1⟩ : ItD))])) (now + 1)) :
    StI n mo (i + 1) ⟨sv, lv, sv2, lv2, S, S2, W, W2, M', trim mo (rmv a K ++ [((a : Int), (⟨s, dread (S.map SecD.L) (W.map WrD.c) a, now + 1⟩ : ItD))]), now + 1, hit, miss + 1⟩ := by
  have n1 : S.length = n := h.n1
  have hkm : K.length ≤ mo := h.km
  have hr := rmv_len_le (a : Int) K
  refine ⟨h.o1, h.o2, h.n1, h.n2, h.eS, h.eW, hi, trim_le (by rw [List.length_append, List.length_singleton]; omega), fun p hp => ?_, Nat.le_succ_of_le h.wl, Nat.succ_le_succ h.nw, Nat.le_succ_of_le h.ht, Nat.succ_le_succ h.ms⟩
  rcases List.mem_append.1 (trim_mem hp) with hp | hp
  · exact h.it p (mem_rmv hp).1
  · obtain rfl := List.mem_singleton.1 hp
    exact ⟨a, rfl, ha, ⟨hs, dread_ok (fun l hl => by obtain ⟨d, hd, rfl⟩ := List.mem_map.1 hl; exact (h.o1.s d hd).k) (fun y hy => by obtain ⟨d, hd, rfl⟩ := List.mem_map.1 hy; exact (h.o1.w d hd).1.k) (by rw [List.length_map]; omega)⟩, rfl⟩
/-- What is left without one place. -/
theorem keys_rmv_at {K : List Itm} {q : Int} {j : Nat} (hn : (keys K).Nodup) (hj : (keys K)[j]? = some q) : (keys K).take j ++ (keys K).drop (j + 1) = keys (rmv q K) := by
  show _ = (rmv q K).map (·.1)
  rw [rmv_keys]
  have h1 : (keys K) = (keys K).take j ++ q :: (keys K).drop (j + 1) := by
    obtain ⟨h2, h3⟩ := List.getElem?_eq_some_iff.1 hj
    have := (List.take_append_drop j (keys K)).symm
    rw [List.drop_eq_getElem_cons h2, h3] at this
    exact this
  have hn2 := hn
  rw [h1] at hn2
  obtain ⟨a1, a2, a3⟩ := List.nodup_append.1 hn2
  obtain ⟨b1, b2⟩ := List.nodup_cons.1 a2
  have f1 : ((keys K).take j).filter (fun a => decide (a ≠ q)) = (keys K).take j := List.filter_eq_self.2 fun y hy => by simpa using a3 y hy q (.head _)
  have f2 : ((keys K).drop (j + 1)).filter (fun a => decide (a ≠ q)) = (keys K).drop (j + 1) := List.filter_eq_self.2 fun y hy => by simpa using fun e : y = q => b1 (by rw [← e]; exact hy)
  show _ = (keys K).filter _
  conv => rhs; rw [h1]
  rw [List.filter_append, List.filter_cons, if_neg (by simp), f1, f2]
theorem keys_rmv_no {K : List Itm} {q : Int} (h : q ∉ keys K) : keys (rmv q K) = keys K := by rw [rmv_no h]
end Go.Proofs.Ytajbjbhlpcmddaa.Dk

