/- Pages by places: Drop, Get, Put. -/
import Derived.Test.YtajbjbhlpcmddaaLr3
namespace Go.Proofs.Ytajbjbhlpcmddaa.Dk
open Go.RowKit Mem Gx Bytes
set_option linter.unusedVariables false
set_option linter.unusedSimpArgs false
set_option maxRecDepth 100000
set_option maxHeartbeats 1000000
theorem delI_mem {q : Int} {p : Itm} : ∀ {M : List Itm}, p ∈ delI q M → p ∈ M
  | [], h => h
  | (a, x) :: r, h => by
    unfold delI at h
    by_cases e : q = a
    · rw [if_pos e] at h
      exact .tail _ h
    · rw [if_neg e] at h
      rcases List.mem_cons.1 h with h | h
      · rw [h]; exact .head _
      · exact .tail _ (delI_mem h)
theorem setI_mem {q : Int} {it : ItD} {p : Itm} : ∀ {M : List Itm}, p ∈ setI q it M → p ∈ M ∨ p.2 = it
  | [], h => by rw [List.mem_singleton.1 h]; exact .inr rfl
  | (a, x) :: r, h => by
    unfold setI at h
    by_cases e : q = a
    · rw [if_pos e] at h
      rcases List.mem_cons.1 h with h | h
      · rw [h]; exact .inr rfl
      · exact .inl (.tail _ h)
    · rw [if_neg e] at h
      rcases List.mem_cons.1 h with h | h
      · rw [h]; exact .inl (.head _)
      · rcases setI_mem h with h | h
        · exact .inl (.tail _ h)
        · exact .inr h
theorem setI_has (q : Int) (it : ItD) : ∀ M : List Itm, (q, it) ∈ setI q it M
  | [] => .head _
  | (a, x) :: r => by
    unfold setI
    by_cases e : q = a
    · rw [if_pos e, e]
      exact .head _
    · rw [if_neg e]
      exact .tail _ (setI_has q it r)
theorem der_del {M : List Itm} {q : Int} : Der [allF M itF] (allF (delI q M) itF) := .all fun x hx => Der.elem (L := M) (F := itF) (.mem (.head _)) (delI_mem hx)
theorem der_set {M : List Itm} {q : Int} {it : ItD} : Der [allF M itF, sl it.s.A 1 (IE .u8) it.L] (allF (setI q it M) itF) := .all fun x hx => by
  rcases setI_mem hx with h | h
  · exact Der.elem (L := M) (F := itF) (.mem (.head _)) h
  · obtain ⟨k, y⟩ := x
    obtain rfl : y = it := h
    exact .mem (.tail _ (.head _))
theorem der_set1 {M : List Itm} {q : Int} {it : ItD} (h : Der [allF M itF] (sl it.s.A 1 (IE .u8) it.L)) : Der [allF M itF] (allF (setI q it M) itF) := der_set.trans fun ψ hψ => by
  rcases List.mem_cons.1 hψ with rfl | hψ
  · exact .mem (.head _)
  · obtain rfl := List.mem_singleton.1 hψ
    exact h
theorem lk_some {q : Int} {M : List Itm} {x : ItD} {z : Value} (h : getI q M = some x) : (if true = true then Value.tuple #[((lkG q (vals M) 0).map (·.2)).getD z, .bool (lkG q (vals M) 0).isSome] else ((lkG q (vals M) 0).map (·.2)).getD z) = .tuple #[itV x, .bool true] := by
  have h1 := mg_vals q M
  rw [h] at h1
  unfold mg at h1
  cases hl : lkG q (vals M) 0 with
  | none => rw [hl] at h1; cases h1
  | some p =>
    rw [hl] at h1
    rw [if_pos rfl]
    have := Option.some.inj h1
    show Value.tuple #[p.2, .bool true] = _
    rw [show p.2 = itV x from this]
theorem lk_none {q : Int} {M : List Itm} {z : Value} (h : getI q M = none) : (if true = true then Value.tuple #[((lkG q (vals M) 0).map (·.2)).getD z, .bool (lkG q (vals M) 0).isSome] else ((lkG q (vals M) 0).map (·.2)).getD z) = .tuple #[z, .bool false] := by
  have h1 := mg_vals q M
  rw [h] at h1
  unfold mg at h1
  cases hl : lkG q (vals M) 0 with
  | none => rfl
  | some p => rw [hl] at h1; cases h1
theorem drop_any (c r mo now hit miss : Nat) (M : List Itm) (at' : Int) (w : World) (h : Rd1 w (lrF c ⟨r, mo, now, hit, miss, M⟩)) :
    Calls Try.prog 33 [.pointer (some ⟨c, 0, none⟩), .int .i64 at'].toArray w (RetM (lrF c ⟨r, mo, now, hit, miss, M⟩) (fun _ : Unit => True) (fun _ => .bool (getI at' M).isSome) (fun _ => lrF c ⟨r, mo, now, hit, miss, delI at' M⟩) w) := by
  refine g_enter0 T (finE (lrF c ⟨r, mo, now, hit, miss, M⟩) w) [blk c [.map (some r), .int .i64 (mo : Nat), .int .u64 (now : Nat), .int .i64 (hit : Nat), .int .i64 (miss : Nat)] 103, mpk r (Value.int .i64) (vals M), allF M itF] [] Try.func33 rfl Try.ntmps33 rfl (Kn.startP h (fun b hb => (finE_mem h.2 b).2 hb) (fun ψ hψ => by cases hψ)) ?_
  (repeat (refine gG ?_; try intro _))
  refine g_yd rfl rfl ((ys_lookupG (S := [mpk r (Value.int .i64) (vals M)]) at' rfl rfl rfl rfl Try.underlying101 kok_i z_item mE).ydS sF) ?_
  cases hg : getI at' M with
  | some x =>
    obtain ⟨⟨xA, xn, xc⟩, xL, xw⟩ := x
    refine g_say 13 (.tuple #[.agg #[.slice xA xn xc, .int .u64 (xw : Nat)], .bool true]) rfl (lk_some hg) ?_
    (repeat (refine gG ?_; try intro _))
    refine g_mv rfl (mv_mapDeleteG rfl at' rfl rfl rfl rfl rfl Try.underlying101 kok_i (by first | ((repeat (first | with_reducible exact Upd.here _ | with_reducible apply Upd.there)); done) | ((repeat (first | exact Upd.here _ | apply Upd.there)); done) | fail) ?_)
    (repeat (refine gG ?_; try intro _))
    rw [md_vals]
    refine gk_derO [allF M itF] [blk c [.map (some r), .int .i64 (mo : Nat), .int .u64 (now : Nat), .int .i64 (hit : Nat), .int .i64 (miss : Nat)] 103, mpk r (Value.int .i64) (vals (delI at' M))] (der_del (q := at')) sA ?_
    refine gk_ret hT rfl rfl (.tmp rfl .nil) (fun w' hk => ?_)
    exact RetM.mkP (ll := fun _ : Unit => lrL c ⟨r, mo, now, hit, miss, delI at' M⟩) () trivial rfl hk (fun b hb => (finE_mem h.2 b).1 hb) sA
  | none =>
    refine g_say 13 (.tuple #[.agg #[.slice none 0 0, .int .u64 0], .bool false]) rfl (lk_none hg) ?_
    (repeat (refine gG ?_; try intro _))
    refine g_mv rfl (mv_mapDeleteG rfl at' rfl rfl rfl rfl rfl Try.underlying101 kok_i (by first | ((repeat (first | with_reducible exact Upd.here _ | with_reducible apply Upd.there)); done) | ((repeat (first | exact Upd.here _ | apply Upd.there)); done) | fail) ?_)
    (repeat (refine gG ?_; try intro _))
    rw [md_vals]
    refine gk_derO [allF M itF] [blk c [.map (some r), .int .i64 (mo : Nat), .int .u64 (now : Nat), .int .i64 (hit : Nat), .int .i64 (miss : Nat)] 103, mpk r (Value.int .i64) (vals (delI at' M))] (der_del (q := at')) sA ?_
    refine gk_ret hT rfl rfl (.tmp rfl .nil) (fun w' hk => ?_)
    exact RetM.mkP (ll := fun _ : Unit => lrL c ⟨r, mo, now, hit, miss, delI at' M⟩) () trivial rfl hk (fun b hb => (finE_mem h.2 b).1 hb) sA
theorem miss_any (c r mo now hit miss : Nat) (M : List Itm) (at' : Int) (w : World) (hg : getI at' M = none) (h9 : miss ≤ 100000) (h : Rd1 w (lrF c ⟨r, mo, now, hit, miss, M⟩)) :
    Calls Try.prog 41 [.pointer (some ⟨c, 0, none⟩), .int .i64 at'].toArray w (RetM (lrF c ⟨r, mo, now, hit, miss, M⟩) (fun _ : Unit => True) (fun _ => .tuple #[.slice none 0 0, .bool false]) (fun _ => lrF c ⟨r, mo, now, hit, miss + 1, M⟩) w) := by
  refine g_enter0 T (finE (lrF c ⟨r, mo, now, hit, miss, M⟩) w) [blk c [.map (some r), .int .i64 (mo : Nat), .int .u64 (now : Nat), .int .i64 (hit : Nat), .int .i64 (miss : Nat)] 103, mpk r (Value.int .i64) (vals M), allF M itF] [] Try.func41 rfl Try.ntmps41 rfl (Kn.startP h (fun b hb => (finE_mem h.2 b).2 hb) (fun ψ hψ => by cases hψ)) ?_
  (repeat (refine gG ?_; try intro _))
  refine g_yd rfl rfl ((ys_lookupG (S := [mpk r (Value.int .i64) (vals M)]) at' rfl rfl rfl rfl Try.underlying101 kok_i z_item mE).ydS sF) ?_
  refine g_say 14 (.tuple #[.agg #[.slice none 0 0, .int .u64 0], .bool false]) rfl (lk_none hg) ?_
  (repeat' (first | (refine gG ?_; try intro _) | ((first | refine g_split rfl rfl tE (fun _ => ?_) (fun _ => ?_) | refine gk_cond rfl rfl tE (fun _ => ?_) (fun _ => ?_)) <;> (try first | (exfalso; omega; done) | (rename_i hx; exact absurd rfl hx) | (rename_i hx; cases hx; done)))))
  refine gk_ret hT rfl rfl (.tmp rfl (.tmp rfl .nil)) (fun w' hk => ?_)
  exact RetM.mkP (ll := fun _ : Unit => lrL c ⟨r, mo, now, hit, miss + 1, M⟩) () trivial rfl hk (fun b hb => (finE_mem h.2 b).1 hb) sA
theorem hit_any (c r mo now hit miss : Nat) (M : List Itm) (at' : Int) (xA : Option Addr) (xn xc : Nat) (xL : List Int) (xw : Nat) (w : World) (hg : getI at' M = some ⟨⟨xA, xn, xc⟩, xL, xw⟩) (hx : (⟨⟨xA, xn, xc⟩, xL, xw⟩ : ItD).Ok) (h9 : hit ≤ 100000) (h8 : now ≤ 100000) (h : Rd1 w (lrF c ⟨r, mo, now, hit, miss, M⟩)) :
    Calls Try.prog 41 [.pointer (some ⟨c, 0, none⟩), .int .i64 at'].toArray w (RetM (lrF c ⟨r, mo, now, hit, miss, M⟩) (fun s : SlV => s.Ok xL.length) (fun s => .tuple #[.slice s.A s.n s.c, .bool true]) (fun s => packF (lrL c ⟨r, mo, now + 1, hit + 1, miss, setI at' ⟨⟨xA, xn, xc⟩, xL, now + 1⟩ M⟩ ++ [sl s.A 1 (IE .u8) xL])) w) := by
  have hxn : xn = xL.length := hx.s.n
  have hx8 : xL.length = 128 := hx.k.1
  have hmem := getI_mem hg
  refine g_enter0 T (finE (lrF c ⟨r, mo, now, hit, miss, M⟩) w) [blk c [.map (some r), .int .i64 (mo : Nat), .int .u64 (now : Nat), .int .i64 (hit : Nat), .int .i64 (miss : Nat)] 103, mpk r (Value.int .i64) (vals M), allF M itF] [] Try.func41 rfl Try.ntmps41 rfl (Kn.startP h (fun b hb => (finE_mem h.2 b).2 hb) (fun ψ hψ => by cases hψ)) ?_
  refine gk_own 0 5 1 (IE .u8) ?_
  (repeat (refine gG ?_; try intro _))
  refine g_yd rfl rfl ((ys_lookupG (S := [mpk r (Value.int .i64) (vals M)]) at' rfl rfl rfl rfl Try.underlying101 kok_i z_item mE).ydS sF) ?_
  refine g_say 14 (.tuple #[.agg #[.slice xA xn xc, .int .u64 (xw : Nat)], .bool true]) rfl (lk_some hg) ?_
  (repeat' (first | (refine gG ?_; try intro _) | ((first | refine g_split rfl rfl tE (fun _ => ?_) (fun _ => ?_) | refine gk_cond rfl rfl tE (fun _ => ?_) (fun _ => ?_)) <;> (try first | (exfalso; omega; done) | (rename_i hx; exact absurd rfl hx) | (rename_i hx; cases hx; done)))))
  rename_i g6
  refine g_pack [blk c [.map (some r), .int .i64 (mo : Nat), .int .u64 (now : Nat), .int .i64 ((hit + 1 : Nat) : Int), .int .i64 (miss : Nat)] 103, mpk r (Value.int .i64) (vals M)] [blk g6 [.slice xA xn xc, .int .u64 (xw : Nat)] 105, allF M itF, own 0 5 1 (.slice none 0 0) (IE .u8) []] sA ?_
  refine g_mv rfl (mv_call_mod (φ := packF [blk c [.map (some r), .int .i64 (mo : Nat), .int .u64 (now : Nat), .int .i64 ((hit + 1 : Nat) : Int), .int .i64 (miss : Nat)] 103, mpk r (Value.int .i64) (vals M)]) (ψ := fun _ : Unit => packF [blk c [.map (some r), .int .i64 (mo : Nat), .int .u64 ((now + 1 : Nat) : Int), .int .i64 ((hit + 1 : Nat) : Int), .int .i64 (miss : Nat)] 103, mpk r (Value.int .i64) (vals (setI at' (⟨⟨xA, xn, xc⟩, xL, now + 1⟩ : ItD) M))]) (fun w hk => by exact touch_any c r mo now (hit + 1) miss M at' xA xn xc xL w h8 (hk.rO (φ := packF [blk c [.map (some r), .int .i64 (mo : Nat), .int .u64 (now : Nat), .int .i64 ((hit + 1 : Nat) : Int), .int .i64 (miss : Nat)] 103, mpk r (Value.int .i64) (vals M)]) mE)) rfl rfl rfl rfl rfl (by kernel_rfl) (by intro _; first | ((repeat (first | with_reducible exact Upd.here _ | with_reducible apply Upd.there)); done) | ((repeat (first | exact Upd.here _ | apply Upd.there)); done) | fail) (fun _ _ => ?_))
  refine g_unpack (l := [blk c [.map (some r), .int .i64 (mo : Nat), .int .u64 ((now + 1 : Nat) : Int), .int .i64 ((hit + 1 : Nat) : Int), .int .i64 (miss : Nat)] 103, mpk r (Value.int .i64) (vals (setI at' (⟨⟨xA, xn, xc⟩, xL, now + 1⟩ : ItD) M))]) (by repeat (first | with_reducible exact Sel.here | with_reducible apply Sel.there)) ?_
  refine g_derO [allF M itF] [blk g6 [.slice xA xn xc, .int .u64 (xw : Nat)] 105, blk c [.map (some r), .int .i64 (mo : Nat), .int .u64 ((now + 1 : Nat) : Int), .int .i64 ((hit + 1 : Nat) : Int), .int .i64 (miss : Nat)] 103, mpk r (Value.int .i64) (vals (setI at' (⟨⟨xA, xn, xc⟩, xL, now + 1⟩ : ItD) M)), own 0 5 1 (.slice none 0 0) (IE .u8) []] (der_set1 (q := at') (it := (⟨⟨xA, xn, xc⟩, xL, now + 1⟩ : ItD)) (Der.elem (L := M) (F := itF) (x := (at', ⟨⟨xA, xn, xc⟩, xL, xw⟩)) (.mem (.head _)) hmem)) sA ?_
  (repeat' (first | (refine gG ?_; try intro _) | ((first | refine g_split rfl rfl tE (fun _ => ?_) (fun _ => ?_) | refine gk_cond rfl rfl tE (fun _ => ?_) (fun _ => ?_)) <;> (try first | (exfalso; omega; done) | (rename_i hx; exact absurd rfl hx) | (rename_i hx; cases hx; done)))))
  refine g_mv rfl (mv_append (L := ([] : List Int)) rfl xL rfl rfl rfl rfl elt_B (by intro _; first | ((repeat (first | with_reducible exact Upd.here _ | with_reducible apply Upd.there)); done) | ((repeat (first | exact Upd.here _ | apply Upd.there)); done) | fail) (fun w hk => hk.pO (allF (setI at' (⟨⟨xA, xn, xc⟩, xL, now + 1⟩ : ItD) M) itF) mE _ (setI_has at' (⟨⟨xA, xn, xc⟩, xL, now + 1⟩ : ItD) M)) hxn (by intro x j; rfl) (by simp [maxLen]; omega) (by simp; omega) (Nat.zero_le _) (fun v => ?_))
  refine g_ownv v mE (fun A2 c2 hv2 hA1 hA2 hA3 => ?_)
  subst hv2
  (repeat (refine gG ?_; try intro _))
  refine gk_freeze (.slice A2 ([] ++ xL).length c2) (fun A => (by first | ((repeat (first | with_reducible exact Upd.here _ | with_reducible apply Upd.there)); done) | ((repeat (first | exact Upd.here _ | apply Upd.there)); done) | fail)) (fun A c3 hv3 _ _ _ => ?_)
  injection hv3 with e1 e2 e3
  subst e1 e3
  refine gk_ret hT rfl rfl (.tmp rfl (.tmp rfl .nil)) (fun w' hk => ?_)
  exact RetM.mkP (ll := fun s : SlV => lrL c ⟨r, mo, now + 1, hit + 1, miss, setI at' (⟨⟨xA, xn, xc⟩, xL, now + 1⟩ : ItD) M⟩ ++ [sl s.A 1 (IE .u8) xL]) ⟨A2, xL.length, c2⟩ ⟨rfl, hA1, hA2, hA3⟩ rfl hk (fun b hb => (finE_mem h.2 b).1 hb) sA
end Go.Proofs.Ytajbjbhlpcmddaa.Dk

