/- Trees as data: which nodes a change leaves (plain; no program). -/
import Derived.Test.YtajmjfnecmknnaaTn
namespace Go.Proofs.Ytajmjfnecmknnaa.Tr
open Nd Gx Tw
set_option linter.unusedVariables false
set_option linter.unusedSimpArgs false
/-- All nodes of a tree. -/
def gs : (h : Nat) → T h → List Nat
  | 0, t => [(nd 0 t).g]
  | h + 1, t => (nd (h + 1) t).g :: (t.2.map (gs h)).flatten
def AT.gs (a : AT) : List Nat := Tr.gs a.h a.t
theorem AT.gs_eq (a : AT) : a.gs = (Tr.nd a.h a.t).g :: (a.kids.map AT.gs).flatten := by
  obtain ⟨h, t⟩ := a
  cases h with
  | zero => rfl
  | succ h =>
    show (Tr.nd (h + 1) t).g :: (t.2.map (Tr.gs h)).flatten = _ :: ((((Tr.kids t).map fun k => (⟨h, k⟩ : AT))).map AT.gs).flatten
    rw [List.map_map]
    rfl
theorem bfs_gs {a : AT} {Q : List AT} {i : Nat} (h : BfsR a Q i) (f : Nat → Bool) : (((Q.take i).map fun q => (Tr.nd q.h q.t).g).countP f) + (((Q.drop i).map AT.gs).flatten.countP f) = a.gs.countP f := by
  induction h with
  | start => simp
  | @step Q i b h hb ih =>
    have hi := (List.getElem?_eq_some_iff.1 hb).1
    have hbe := (List.getElem?_eq_some_iff.1 hb).2
    rw [← ih]
    rw [List.take_append_of_le_length (by omega), List.drop_append_of_le_length (by omega), List.take_succ_eq_append_getElem hi, hbe, List.drop_eq_getElem_cons hi, hbe]
    simp only [List.map_append, List.map_cons, List.map_nil, List.flatten_append, List.flatten_cons, List.countP_append, AT.gs_eq b, List.countP_cons, List.countP_nil]
    omega
theorem bfs_all {a : AT} {Q : List AT} (h : BfsR a Q Q.length) (f : Nat → Bool) : (Q.map fun q => (Tr.nd q.h q.t).g).countP f = a.gs.countP f := by
  have := bfs_gs h f
  rw [List.take_length, List.drop_length] at this
  simpa using this
/-- How many of some aren't among others. -/
def lost (A B : List Nat) : Nat := A.countP fun x => !(B.contains x)
theorem lost_app (A A' B : List Nat) : lost (A ++ A') B = lost A B + lost A' B := List.countP_append ..
theorem lost_mono {A B C : List Nat} (h : ∀ x ∈ B, x ∈ C) : lost A C ≤ lost A B := by
  unfold lost
  refine List.countP_mono_left fun x _ hx => ?_
  simp only [Bool.not_eq_true', List.contains_eq_mem, decide_eq_false_iff_not] at hx ⊢
  exact fun h2 => hx (h x h2)
theorem lost_none {A B : List Nat} (h : ∀ x ∈ A, x ∈ B) : lost A B = 0 := by
  unfold lost
  rw [List.countP_eq_zero]
  intro x hx
  simp [h x hx]
theorem lost_cons (x : Nat) (A B : List Nat) : lost (x :: A) B ≤ 1 + lost A B := by
  unfold lost
  rw [List.countP_cons]
  split <;> omega
def gsL {h : Nat} (l : List (T h)) : List Nat := (l.map (gs h)).flatten
theorem gsL_app {h : Nat} (l m : List (T h)) : gsL (l ++ m) = gsL l ++ gsL m := by unfold gsL; rw [List.map_append, List.flatten_append]
theorem gsL_mem {h : Nat} {l : List (T h)} {k : T h} (hk : k ∈ l) : ∀ x ∈ gs h k, x ∈ gsL l := fun x hx => List.mem_flatten.2 ⟨_, List.mem_map.2 ⟨k, hk, rfl⟩, hx⟩
theorem gsL_sub {h : Nat} {l m : List (T h)} (hs : ∀ k ∈ l, k ∈ m) : ∀ x ∈ gsL l, x ∈ gsL m := fun x hx => by
  obtain ⟨y, hy, hx⟩ := List.mem_flatten.1 hx
  obtain ⟨k, hk, rfl⟩ := List.mem_map.1 hy
  exact gsL_mem (hs k hk) x hx
/-- What is below nodes that were made of a row. -/
theorem gsL_cut {h : Nat} {ts : List (T (h + 1))} {L : List (T h)} (e : ts.map (fun s => s.2) = cutN L) : ∀ x ∈ gsL L, x ∈ gsL ts := fun x hx => by
  obtain ⟨y, hy, hx⟩ := List.mem_flatten.1 hx
  obtain ⟨k, hk, rfl⟩ := List.mem_map.1 hy
  have h1 : k ∈ (cutN L).flatten := by rw [cut_flat]; exact hk
  obtain ⟨M, hM, hkM⟩ := List.mem_flatten.1 h1
  rw [← e] at hM
  obtain ⟨s, hs, rfl⟩ := List.mem_map.1 hM
  refine gsL_mem hs x ?_
  show x ∈ (nd (h + 1) s).g :: gsL s.2
  exact List.mem_cons_of_mem _ (gsL_mem hkM x hx)
theorem split_gs {h : Nat} {ks : List (T h)} {i : Nat} {c : T h} (hc : ks[i]? = some c) : gsL ks = gsL (ks.take i) ++ gs h c ++ gsL (ks.drop (i + 1)) := by
  have hi := (List.getElem?_eq_some_iff.1 hc).1
  have he := (List.getElem?_eq_some_iff.1 hc).2
  have : ks = ks.take i ++ [c] ++ ks.drop (i + 1) := by
    rw [List.append_assoc, List.singleton_append, ← he, ← List.drop_eq_getElem_cons hi, List.take_append_drop]
  conv => lhs; rw [this]
  rw [gsL_app, gsL_app]
  congr 2
  unfold gsL
  simp
theorem setR_lost : ∀ (h : Nat) (t : T h) (e : EntD) (ts : List (T h)), SetR h t e ts → lost (gs h t) (gsL ts) ≤ h + 1
  | 0, t, e, ts, _ => by
    have := lost_cons (nd 0 t).g [] (gsL ts)
    show lost [(nd 0 t).g] _ ≤ 1
    unfold lost at *
    simpa using this
  | h + 1, t, e, ts, ⟨q, c, us, hq, hc, hs, hts, _⟩ => by
    have ih := setR_lost h c e us hs
    have h1 : lost (gs (h + 1) t) (gsL ts) ≤ 1 + lost (gsL t.2) (gsL ts) := lost_cons _ _ _
    have hsub := gsL_cut hts
    rw [split_gs hc, lost_app, lost_app] at h1
    have h2 : lost (gsL (t.2.take (kidIx ((t.2.map (ents h)).map fstK) e.k q))) (gsL ts) = 0 := lost_none fun x hx => hsub x (gsL_sub (fun k hk => List.mem_append_left _ (List.mem_append_left _ hk)) x hx)
    have h3 : lost (gsL (t.2.drop (kidIx ((t.2.map (ents h)).map fstK) e.k q + 1))) (gsL ts) = 0 := lost_none fun x hx => hsub x (gsL_sub (fun k hk => List.mem_append_right _ hk) x hx)
    have h4 : lost (gs h c) (gsL ts) ≤ lost (gs h c) (gsL us) := lost_mono fun x hx => hsub x (gsL_sub (fun k hk => List.mem_append_left _ (List.mem_append_right _ hk)) x hx)
    omega
/-- A join leaves all but the two. -/
theorem joinR_lost {h : Nat} {a b : T h} {js : List (T h)} (hj : JoinR h a b js) : lost (gs h a) (gsL js) ≤ 1 ∧ lost (gs h b) (gsL js) ≤ 1 := by
  cases h with
  | zero =>
    have h1 := lost_cons (nd 0 a).g [] (gsL js)
    have h2 := lost_cons (nd 0 b).g [] (gsL js)
    show lost [(nd 0 a).g] _ ≤ 1 ∧ lost [(nd 0 b).g] _ ≤ 1
    unfold lost at *
    exact ⟨by simpa using h1, by simpa using h2⟩
  | succ h =>
    have hsub := gsL_cut hj.1
    have h1 : lost (gs (h + 1) a) (gsL js) ≤ 1 + lost (gsL a.2) (gsL js) := lost_cons _ _ _
    have h2 : lost (gs (h + 1) b) (gsL js) ≤ 1 + lost (gsL b.2) (gsL js) := lost_cons _ _ _
    have h3 : lost (gsL a.2) (gsL js) = 0 := lost_none fun x hx => hsub x (gsL_sub (fun k hk => List.mem_append_left _ hk) x hx)
    have h4 : lost (gsL b.2) (gsL js) = 0 := lost_none fun x hx => hsub x (gsL_sub (fun k hk => List.mem_append_right _ hk) x hx)
    omega
/-- What lies below some nodes. -/
def gsB : {h : Nat} → List (T h) → List Nat
  | 0, _ => []
  | _ + 1, ts => gsL ((ts.map fun s => s.2).flatten)
theorem gsB_sub : ∀ {h : Nat} {l : List (T h)}, ∀ x ∈ gsB l, x ∈ gsL l
  | 0, l, x, hx => by cases hx
  | h + 1, l, x, hx => by
    obtain ⟨y, hy, hx⟩ := List.mem_flatten.1 hx
    obtain ⟨k, hk, rfl⟩ := List.mem_map.1 hy
    obtain ⟨M, hM, hkM⟩ := List.mem_flatten.1 hk
    obtain ⟨s, hs, rfl⟩ := List.mem_map.1 hM
    refine gsL_mem hs x ?_
    show x ∈ (nd (h + 1) s).g :: gsL s.2
    exact List.mem_cons_of_mem _ (gsL_mem hkM x hx)
theorem gsB_join : ∀ {h : Nat} {a b : T h} {js : List (T h)}, JoinR h a b js → (∀ x ∈ gsB [a], x ∈ gsL js) ∧ ∀ x ∈ gsB [b], x ∈ gsL js
  | 0, a, b, js, _ => ⟨fun x hx => (by cases hx), fun x hx => (by cases hx)⟩
  | h + 1, a, b, js, hj => by
    have hsub := gsL_cut hj.1
    refine ⟨fun x hx => hsub x (gsL_sub (fun k hk => ?_) x hx), fun x hx => hsub x (gsL_sub (fun k hk => ?_) x hx)⟩
    · exact List.mem_append_left _ (by simpa using hk)
    · exact List.mem_append_right _ (by simpa using hk)
theorem joined_lost {h : Nat} {D0 D1 ks' : List (T h)} {u : T h} (hj : JoinedR h (D0 ++ [u] ++ D1) D0.length ks') : lost (gsL D0) (gsL ks') + lost (gsL D1) (gsL ks') ≤ 1 ∧ ∀ x ∈ gsB [u], x ∈ gsL ks' := by
  obtain ⟨c, hc, ⟨_, rfl⟩ | ⟨_, a, b, js, ha, hb, hJ, rfl⟩⟩ := hj
  · refine ⟨?_, fun x hx => gsL_sub (fun k hk => List.mem_append_left _ (List.mem_append_right _ hk)) x (gsB_sub x hx)⟩
    rw [lost_none (A := gsL D0) fun x hx => gsL_sub (fun k hk => List.mem_append_left _ (List.mem_append_left _ hk)) x hx, lost_none (A := gsL D1) fun x hx => gsL_sub (fun k hk => List.mem_append_right _ hk) x hx]
    decide
  · obtain ⟨j1, j2⟩ := joinR_lost hJ
    obtain ⟨b1, b2⟩ := gsB_join hJ
    have hjs : ∀ x ∈ gsL js, x ∈ gsL ((D0 ++ [u] ++ D1).take (D0.length - 1) ++ js ++ (D0 ++ [u] ++ D1).drop (D0.length - 1 + 2)) := fun x hx => gsL_sub (fun k hk => List.mem_append_left _ (List.mem_append_right _ hk)) x hx
    rcases Nat.eq_zero_or_pos D0.length with h0 | h0
    · obtain rfl := List.length_eq_zero_iff.1 h0
      have ea : a = u := by simpa using ha.symm
      subst ea
      match D1, hb with
      | d :: r, hb =>
        have eb : b = d := by simpa using hb.symm
        subst eb
        refine ⟨?_, fun x hx => hjs x (b1 x hx)⟩
        have h1 : gsL ([] : List (T h)) = [] := rfl
        have h2 : gsL (b :: r) = gs h b ++ gsL r := rfl
        rw [h1, h2, lost_app]
        have h3 : lost (gsL r) (gsL (([] ++ [a] ++ (b :: r)).take (([] : List (T h)).length - 1) ++ js ++ ([] ++ [a] ++ (b :: r)).drop (([] : List (T h)).length - 1 + 2))) = 0 := lost_none fun x hx => gsL_sub (fun k hk => List.mem_append_right _ hk) x hx
        have h4 := Nat.le_trans (lost_mono (A := gs h b) hjs) j2
        have h5 : lost [] (gsL (([] ++ [a] ++ (b :: r)).take (([] : List (T h)).length - 1) ++ js ++ ([] ++ [a] ++ (b :: r)).drop (([] : List (T h)).length - 1 + 2))) = 0 := rfl
        omega
    · obtain ⟨E, z, rfl⟩ : ∃ E z, D0 = E ++ [z] := by
        rcases List.eq_nil_or_concat D0 with rfl | ⟨E, z, rfl⟩
        · cases h0
        · exact ⟨E, z, by rw [List.concat_eq_append]⟩
      have hl : (E ++ [z]).length - 1 = E.length := by simp
      rw [hl] at ha hb hjs ⊢
      have ea : a = z := by
        rw [List.append_assoc, List.append_assoc, List.getElem?_append_right (Nat.le_refl _)] at ha
        simpa using ha.symm
      subst ea
      have eb : b = u := by
        rw [List.append_assoc, List.append_assoc, List.getElem?_append_right (by omega)] at hb
        simpa using hb.symm
      subst eb
      refine ⟨?_, fun x hx => hjs x (b2 x hx)⟩
      have hdr : (E ++ [a] ++ [b] ++ D1).drop (E.length + 2) = D1 := by
        have : E ++ [a] ++ [b] ++ D1 = (E ++ [a] ++ [b]) ++ D1 := rfl
        rw [this, List.drop_left' (by simp)]
      have htk : (E ++ [a] ++ [b] ++ D1).take E.length = E := by
        rw [List.append_assoc, List.append_assoc, List.take_left']
        rfl
      rw [hdr, htk] at hjs ⊢
      rw [gsL_app, lost_app]
      have h1 : lost (gsL E) (gsL (E ++ js ++ D1)) = 0 := lost_none fun x hx => gsL_sub (fun k hk => List.mem_append_left _ (List.mem_append_left _ hk)) x hx
      have h2 : lost (gsL D1) (gsL (E ++ js ++ D1)) = 0 := lost_none fun x hx => gsL_sub (fun k hk => List.mem_append_right _ hk) x hx
      have h3 : gsL [a] = gs h a := by unfold gsL; simp
      have h4 := Nat.le_trans (lost_mono (A := gs h a) hjs) j1
      rw [h3]
      omega
theorem lost_le_length (A B : List Nat) : lost A B ≤ A.length := List.countP_le_length
theorem delR_lost : ∀ (h : Nat) (t : T h) (k : KeyD) (ts : List (T h)), DelR h t k ts → Root h t ∨ Good h t → lost (gs h t) (gsB ts) ≤ 2 * h + 1
  | 0, t, k, ts, _, _ => by
    have := lost_le_length (gs 0 t) (gsB ts)
    have e : (gs 0 t).length = 1 := rfl
    omega
  | h + 1, t, k, ts, ⟨q, c, us, ks, hq, hc, hd, hj, hts, _⟩, hsz => by
    have hcg : Good h c := by
      rcases hsz with hs | hs
      · exact hs.2.2 c (List.mem_of_getElem? hc)
      · exact hs.2.2 c (List.mem_of_getElem? hc)
    obtain ⟨u, rfl, _⟩ := (delR_size h c k us hd).1 hcg
    have ih := delR_lost h c k [u] hd (.inr hcg)
    have hB : gsB ts = gsL ks := by
      show gsL ((ts.map fun s => s.2).flatten) = _
      rw [hts, cut_flat]
    have hi := (List.getElem?_eq_some_iff.1 hc).1
    have hl : (t.2.take (kidIx ((t.2.map (ents h)).map fstK) k q)).length = kidIx ((t.2.map (ents h)).map fstK) k q := by rw [List.length_take]; omega
    have hj' := hj
    rw [← hl] at hj'
    rw [hl] at hj'
    obtain ⟨h1, h2⟩ := joined_lost (D0 := t.2.take (kidIx ((t.2.map (ents h)).map fstK) k q)) (D1 := t.2.drop (kidIx ((t.2.map (ents h)).map fstK) k q + 1)) (u := u) (ks' := ks) (by rw [hl]; exact hj)
    have h3 : lost (gs (h + 1) t) (gsL ks) ≤ 1 + lost (gsL t.2) (gsL ks) := lost_cons _ _ _
    rw [split_gs hc, lost_app, lost_app] at h3
    have h4 := Nat.le_trans (lost_mono (A := gs h c) h2) ih
    rw [hB]
    omega
theorem setS_lost {H : Nat} {t : T H} {e : EntD} {a : AT} (hs : SetS t e a) : lost (gs H t) a.gs ≤ H + 1 := by
  obtain ⟨ts, h1, ⟨s, rfl, rfl⟩ | ⟨x, y, d, rfl, hd, rfl⟩⟩ := hs
  · have := setR_lost H t e [s] h1
    have e1 : gsL [s] = AT.gs ⟨H, s⟩ := by unfold gsL AT.gs; simp
    rw [← e1]; exact this
  · refine Nat.le_trans (lost_mono fun z hz => ?_) (setR_lost H t e [x, y] h1)
    exact List.mem_cons_of_mem _ hz
theorem delS_lost {H : Nat} {t : T H} {k : KeyD} {a : Option AT} (hs : DelS t k a) (hr : Root H t) : lost (gs H t) ((a.map AT.gs).getD []) ≤ 2 * H + 1 := by
  obtain ⟨ts, h1, h2⟩ := hs
  have h3 := delR_lost H t k ts h1 (.inl hr)
  refine Nat.le_trans (lost_mono fun z hz => ?_) h3
  rcases h2 with ⟨rfl, rfl⟩ | ⟨s, b, rfl, rfl, rfl | hk⟩
  · cases H with
    | zero => cases hz
    | succ H => cases hz
  · have := gsB_sub z hz
    show z ∈ gs H s
    simpa [gsL] using this
  · cases H with
    | zero => cases hz
    | succ H =>
      have hz' : z ∈ gsL s.2 := by
        have : z ∈ gsL (([s].map fun s => s.2).flatten) := hz
        simpa using this
      have hk' : ((s.2 : List (T H)).map fun k => (⟨H, k⟩ : AT)) = [b] := hk
      match hs : s.2, hk' with
      | [c], hk' =>
        have eb : b = ⟨H, c⟩ := by simpa [hs] using hk'.symm
        subst eb
        rw [hs] at hz'
        show z ∈ gs H c
        simpa [gsL] using hz'
end Go.Proofs.Ytajmjfnecmknnaa.Tr

