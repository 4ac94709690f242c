/- text.Read, pair. -/
import Derived.Test.YtmehbhabheokbaaExR
namespace Go.Proofs.Ytmehbhabheokbaa.Ex
open Go.RowKit Mem Gx Dd SoB
set_option linter.unusedVariables false
set_option linter.unusedSimpArgs false
set_option maxRecDepth 100000
set_option maxHeartbeats 1000000
def Bts (L : List Int) : Prop := ∀ x ∈ L, 0 ≤ x ∧ x ≤ 255
/-- What text.Read says. -/
def ReadR (L : List Int) (r : Int × Int) : Prop := (∃ n : Nat, rdP L = some n ∧ r.1 = n ∧ r.2 = 0 ∧ n < 18446744073709551616) ∨ (rdP L = none ∧ r.1 = 0 ∧ 0 < r.2)
theorem wrap64 (z : Int) : 0 ≤ IntKind.u64.wrap z ∧ IntKind.u64.wrap z ≤ 18446744073709551615 := by
  have e : IntKind.u64.wrap z = z % 18446744073709551616 := by
    simp [IntKind.wrap, IntKind.signed, IntKind.bits]
  rw [e]
  omega
theorem wrap8 (z : Int) : 0 ≤ IntKind.u8.wrap z ∧ IntKind.u8.wrap z ≤ 255 := by
  have e : IntKind.u8.wrap z = z % 256 := by
    simp [IntKind.wrap, IntKind.signed, IntKind.bits]
  rw [e]
  omega
theorem tread_any (L : List Int) (w : World) (hB : Bts L) (h9 : L.length ≤ 1000) :
    Calls Try.prog 173 [.string (strOfNums L)].toArray w (Ret (ReadR L) (fun r => .tuple #[.int .u64 r.1, .int .i64 r.2]) (fun _ => []) w) := by
  refine g_enter0 T [] [] [] Try.func173 rfl Try.ntmps173 rfl (Kn.start _) ?_
  rcases L with _ | ⟨c0, L0⟩
  · have hno : rdP [] = none := rdP_none fun h => absurd h.pos (by simp)
    (repeat (refine gG ?_; try intro _))
    refine g_dec true rfl rfl (tB_true rfl) ?_
    (repeat (refine gG ?_; try intro _))
    refine gk_ret hT rfl rfl (.tmp rfl (.tmp rfl .nil)) (fun w' hk => ?_)
    exact Ret.mk ((0, 21) : Int × Int) (.inr ⟨hno, rfl, by decide⟩) rfl hk sA
  obtain ⟨L, hL⟩ : ∃ L, L = c0 :: L0 := ⟨_, rfl⟩
  rw [← hL] at hB h9 ⊢
  have hc0 : L[0]? = some c0 := by rw [hL]; rfl
  have hL1 : 0 < L.length := by rw [hL]; simp
  have hcb := hB c0 (List.mem_of_getElem? hc0)
  (repeat (refine gG ?_; try intro _))
  refine g_dec false rfl rfl (tB_false (fun h => by
    have := congrArg ByteArray.size h
    rw [sx_size] at this
    have h2 : (ByteArray.mk #[]).size = 0 := rfl
    omega)) ?_
  (repeat (refine gG ?_; try intro _))
  refine g_yd rfl rfl (yd_index (jj := ((0 : Nat) : Int)) (j := undef) hT rfl rfl rfl (by omega) (idxV_sx rfl hc0 hcb)) ?_
  (repeat (refine gG ?_; try intro _))
  by_cases h48 : c0 = 48
  · by_cases h1 : 1 < L.length
    · have hno : rdP L = none := rdP_none fun h => by have := h.lead (by rw [hc0, h48]); omega
      refine g_dec true rfl rfl (tB_true h48) ?_
      (repeat (refine gG ?_; try intro _))
      refine gk_cond_t rfl (congrArg some (congrArg Value.bool (tB_true (by rw [sx_size]; omega)))) ?_
      (repeat (refine gG ?_; try intro _))
      refine gk_ret hT rfl rfl (.tmp rfl (.tmp rfl .nil)) (fun w' hk => ?_)
      exact Ret.mk ((0, 21) : Int × Int) (.inr ⟨hno, rfl, by decide⟩) rfl hk sA
    · have hlead : L[0]? = some 48 → L.length = 1 := fun _ => by omega
      refine g_dec true rfl rfl (tB_true h48) ?_
      (repeat (refine gG ?_; try intro _))
      refine gk_cond_f rfl (congrArg some (congrArg Value.bool (tB_false (by rw [sx_size]; omega)))) ?_
      (repeat (refine gG ?_; try intro _))
      refine gk_say 21 (.int .i64 (L.length : Int)) rfl (by rw [sx_size]) ?_
      refine gk_loop_sel (fun (q : Nat × W64 × Bool) => match q with | (i, x, b) => (i ≤ L.length ∧ (∀ y ∈ L.take i, isD y) ∧ (b = false → x.1 = val (L.take i)) ∧ (b = true → 18446744073709551616 ≤ val (L.take i)))) (fun (q : Nat × W64 × Bool) => match q with | (i, x, b) => [(0, .string (strOfNums L)), (4, .int .u64 x.1), (5, .bool b), (21, .int .i64 (L.length : Int)), (22, .int .i64 (i : Int))]) (fun (q : Nat × W64 × Bool) => match q with | (i, x, b) => []) (fun (q : Nat × W64 × Bool) => match q with | (i, x, b) => []) (fun (q : Nat × W64 × Bool) => match q with | (i, x, b) => L.length - i) (0, ⟨0, by decide⟩, false) rfl ⟨Nat.zero_le _, fun y hy => (by simp at hy), fun _ => rfl, fun h => (by cases h)⟩ (by repeat (first | exact trivial | refine ⟨rfl, ?_⟩)) sA sS ?_
      rintro ⟨i, x, b⟩ hI
      replace hI : (i ≤ L.length ∧ (∀ y ∈ L.take i, isD y) ∧ (b = false → x.1 = val (L.take i)) ∧ (b = true → 18446744073709551616 ≤ val (L.take i))) := hI
      change GK _ _ [(0, .string (strOfNums L)), (4, .int .u64 x.1), (5, .bool b), (21, .int .i64 (L.length : Int)), (22, .int .i64 (i : Int))] [] []
      obtain ⟨hi, hd, hv, ho⟩ := hI
      by_cases hlt : i < L.length
      · obtain ⟨y, hy⟩ : ∃ y, L[i]? = some y := ⟨_, List.getElem?_eq_getElem hlt⟩
        have hyb := hB y (List.mem_of_getElem? hy)
        have ht := take_at hy
        have hmem := List.mem_of_getElem? hy
        have hbad : ¬ isD y → rdP L = none := fun h => rdP_none fun hn => h (hn.dig y hmem)
        (repeat' (first | (refine gG ?_; try intro _) | ((first | refine g_split rfl rfl tE (fun _ => ?_) (fun _ => ?_) | refine gk_cond rfl rfl tE (fun _ => ?_) (fun _ => ?_)) <;> (try first | (exfalso; omega; done) | (rename_i hx; exact absurd rfl hx) | (rename_i hx; cases hx; done)))))
        refine g_yd rfl rfl (yd_index (jj := (i : Int)) (j := undef) hT rfl rfl rfl (by omega) (idxV_sx rfl hy hyb)) ?_
        by_cases h48 : y < 48
        · refine g_pure false hT rfl rfl rfl trivial ?_
          have h8 := wrap8 (y - 48)
          (repeat (refine gG ?_; try intro _))
          refine g_yd rfl rfl (yd_index (jj := (i : Int)) (j := undef) hT rfl rfl rfl (by omega) (idxV_sx rfl hy hyb)) ?_
          (repeat' (first | (refine gG ?_; try intro _) | ((first | refine g_split rfl rfl tE (fun _ => ?_) (fun _ => ?_) | refine gk_cond rfl rfl tE (fun _ => ?_) (fun _ => ?_)) <;> (try first | (exfalso; omega; done) | (rename_i hx; exact absurd rfl hx) | (rename_i hx; cases hx; done)))))
          refine gk_ret hT rfl rfl (.tmp rfl (.tmp rfl .nil)) (fun w' hk => ?_)
          exact Ret.mk ((0, 21) : Int × Int) (.inr ⟨hbad (by unfold isD; omega), rfl, by decide⟩) rfl hk sA
        (repeat (refine gG ?_; try intro _))
        refine g_yd rfl rfl (yd_index (jj := (i : Int)) (j := undef) hT rfl rfl rfl (by omega) (idxV_sx rfl hy hyb)) ?_
        by_cases h57 : 57 < y
        · (repeat' (first | (refine gG ?_; try intro _) | ((first | refine g_split rfl rfl tE (fun _ => ?_) (fun _ => ?_) | refine gk_cond rfl rfl tE (fun _ => ?_) (fun _ => ?_)) <;> (try first | (exfalso; omega; done) | (rename_i hx; exact absurd rfl hx) | (rename_i hx; cases hx; done)))))
          refine gk_ret hT rfl rfl (.tmp rfl (.tmp rfl .nil)) (fun w' hk => ?_)
          exact Ret.mk ((0, 21) : Int × Int) (.inr ⟨hbad (by unfold isD; omega), rfl, by decide⟩) rfl hk sA
        have hd2 : ∀ z ∈ L.take (i + 1), isD z := fun z hz => by
          rw [ht] at hz
          rcases List.mem_append.1 hz with h | h
          · exact hd z h
          · obtain rfl := List.mem_singleton.1 h
            exact ⟨by omega, by omega⟩
        have hv2 : val (L.take (i + 1)) = 10 * val (L.take i) + (y - 48).toNat := by rw [ht, val_snoc]
        have hx := x.2
        cases b with
        | true =>
          have hov := ho rfl
          (repeat' (first | (refine gG ?_; try intro _) | ((first | refine g_split rfl rfl tE (fun _ => ?_) (fun _ => ?_) | refine gk_cond rfl rfl tE (fun _ => ?_) (fun _ => ?_)) <;> (try first | (exfalso; omega; done) | (rename_i hx; exact absurd rfl hx) | (rename_i hx; cases hx; done)))))
          refine g_pure false hT rfl rfl rfl trivial ?_
          (repeat (refine gG ?_; try intro _))
          have hw := wrap64 (x.1 * 10)
          refine g_pure false hT rfl rfl rfl trivial ?_
          (repeat (refine gG ?_; try intro _))
          refine gk_say 22 (.int .i64 ((i + 1 : Nat) : Int)) rfl (by first | (congr 1; done) | (congr 1; omega)) ?_
          refine gk_again_sel rfl (i + 1, ⟨_, wrap64 _⟩, true) ⟨hlt, hd2, fun h => (by cases h), fun _ => by rw [hv2]; omega⟩ (by dsimp only; omega) (by repeat (first | exact trivial | refine ⟨rfl, ?_⟩)) sA sS
        | false =>
          have hvx := hv rfl
          (repeat' (first | (refine gG ?_; try intro _) | ((first | refine g_split rfl rfl tE (fun _ => ?_) (fun _ => ?_) | refine gk_cond rfl rfl tE (fun _ => ?_) (fun _ => ?_)) <;> (try first | (exfalso; omega; done) | (rename_i hx; exact absurd rfl hx) | (rename_i hx; cases hx; done)))))
          by_cases hov : (18446744073709551615 - (y - 48)) / 10 < x.1
          · refine g_say 5 (.bool true) rfl (by rw [tB_true hov]) ?_
            refine g_pure false hT rfl rfl rfl trivial ?_
            (repeat (refine gG ?_; try intro _))
            have hw := wrap64 (x.1 * 10)
            refine g_pure false hT rfl rfl rfl trivial ?_
            (repeat (refine gG ?_; try intro _))
            refine gk_say 22 (.int .i64 ((i + 1 : Nat) : Int)) rfl (by first | (congr 1; done) | (congr 1; omega)) ?_
            refine gk_again_sel rfl (i + 1, ⟨_, wrap64 _⟩, true) ⟨hlt, hd2, fun h => (by cases h), fun _ => by rw [hv2]; omega⟩ (by dsimp only; omega) (by repeat (first | exact trivial | refine ⟨rfl, ?_⟩)) sA sS
          · refine g_say 5 (.bool false) rfl (by rw [tB_false hov]) ?_
            (repeat (refine gG ?_; try intro _))
            refine gk_say 22 (.int .i64 ((i + 1 : Nat) : Int)) rfl (by first | (congr 1; done) | (congr 1; omega)) ?_
            refine gk_again_sel rfl (i + 1, ⟨x.1 * 10 + (y - 48), by omega⟩, false) ⟨hlt, hd2, fun _ => by rw [hv2]; show x.1 * 10 + (y - 48) = _; omega, fun h => (by cases h)⟩ (by dsimp only; omega) (by repeat (first | exact trivial | refine ⟨rfl, ?_⟩)) sA sS
      · have ht : L.take i = L := List.take_of_length_le (by omega)
        rw [ht] at hd hv ho
        cases b with
        | true =>
          have hov := ho rfl
          (repeat' (first | (refine gG ?_; try intro _) | ((first | refine g_split rfl rfl tE (fun _ => ?_) (fun _ => ?_) | refine gk_cond rfl rfl tE (fun _ => ?_) (fun _ => ?_)) <;> (try first | (exfalso; omega; done) | (rename_i hx; exact absurd rfl hx) | (rename_i hx; cases hx; done)))))
          refine gk_ret hT rfl rfl (.tmp rfl (.tmp rfl .nil)) (fun w' hk => ?_)
          exact Ret.mk ((0, 50) : Int × Int) (.inr ⟨rdP_none fun h => by have := h.lt; omega, rfl, by decide⟩) rfl hk sA
        | false =>
          have hvx := hv rfl
          have hx := x.2
          (repeat' (first | (refine gG ?_; try intro _) | ((first | refine g_split rfl rfl tE (fun _ => ?_) (fun _ => ?_) | refine gk_cond rfl rfl tE (fun _ => ?_) (fun _ => ?_)) <;> (try first | (exfalso; omega; done) | (rename_i hx; exact absurd rfl hx) | (rename_i hx; cases hx; done)))))
          refine gk_ret hT rfl rfl (.tmp rfl (.tmp rfl .nil)) (fun w' hk => ?_)
          exact Ret.mk ((x.1, 0) : Int × Int) (.inl ⟨val L, rdP_some ⟨hL1, hlead, hd, by omega⟩, hvx, rfl, by omega⟩) rfl hk sA
  · have hlead : L[0]? = some 48 → L.length = 1 := fun h => by
      rw [hc0] at h
      injection h with h
      exact absurd h h48
    refine g_dec false rfl rfl (tB_false h48) ?_
    (repeat (refine gG ?_; try intro _))
    refine gk_say 21 (.int .i64 (L.length : Int)) rfl (by rw [sx_size]) ?_
    refine gk_loop_sel (fun (q : Nat × W64 × Bool) => match q with | (i, x, b) => (i ≤ L.length ∧ (∀ y ∈ L.take i, isD y) ∧ (b = false → x.1 = val (L.take i)) ∧ (b = true → 18446744073709551616 ≤ val (L.take i)))) (fun (q : Nat × W64 × Bool) => match q with | (i, x, b) => [(0, .string (strOfNums L)), (4, .int .u64 x.1), (5, .bool b), (21, .int .i64 (L.length : Int)), (22, .int .i64 (i : Int))]) (fun (q : Nat × W64 × Bool) => match q with | (i, x, b) => []) (fun (q : Nat × W64 × Bool) => match q with | (i, x, b) => []) (fun (q : Nat × W64 × Bool) => match q with | (i, x, b) => L.length - i) (0, ⟨0, by decide⟩, false) rfl ⟨Nat.zero_le _, fun y hy => (by simp at hy), fun _ => rfl, fun h => (by cases h)⟩ (by repeat (first | exact trivial | refine ⟨rfl, ?_⟩)) sA sS ?_
    rintro ⟨i, x, b⟩ hI
    replace hI : (i ≤ L.length ∧ (∀ y ∈ L.take i, isD y) ∧ (b = false → x.1 = val (L.take i)) ∧ (b = true → 18446744073709551616 ≤ val (L.take i))) := hI
    change GK _ _ [(0, .string (strOfNums L)), (4, .int .u64 x.1), (5, .bool b), (21, .int .i64 (L.length : Int)), (22, .int .i64 (i : Int))] [] []
    obtain ⟨hi, hd, hv, ho⟩ := hI
    by_cases hlt : i < L.length
    · obtain ⟨y, hy⟩ : ∃ y, L[i]? = some y := ⟨_, List.getElem?_eq_getElem hlt⟩
      have hyb := hB y (List.mem_of_getElem? hy)
      have ht := take_at hy
      have hmem := List.mem_of_getElem? hy
      have hbad : ¬ isD y → rdP L = none := fun h => rdP_none fun hn => h (hn.dig y hmem)
      (repeat' (first | (refine gG ?_; try intro _) | ((first | refine g_split rfl rfl tE (fun _ => ?_) (fun _ => ?_) | refine gk_cond rfl rfl tE (fun _ => ?_) (fun _ => ?_)) <;> (try first | (exfalso; omega; done) | (rename_i hx; exact absurd rfl hx) | (rename_i hx; cases hx; done)))))
      refine g_yd rfl rfl (yd_index (jj := (i : Int)) (j := undef) hT rfl rfl rfl (by omega) (idxV_sx rfl hy hyb)) ?_
      by_cases h48 : y < 48
      · refine g_pure false hT rfl rfl rfl trivial ?_
        have h8 := wrap8 (y - 48)
        (repeat (refine gG ?_; try intro _))
        refine g_yd rfl rfl (yd_index (jj := (i : Int)) (j := undef) hT rfl rfl rfl (by omega) (idxV_sx rfl hy hyb)) ?_
        (repeat' (first | (refine gG ?_; try intro _) | ((first | refine g_split rfl rfl tE (fun _ => ?_) (fun _ => ?_) | refine gk_cond rfl rfl tE (fun _ => ?_) (fun _ => ?_)) <;> (try first | (exfalso; omega; done) | (rename_i hx; exact absurd rfl hx) | (rename_i hx; cases hx; done)))))
        refine gk_ret hT rfl rfl (.tmp rfl (.tmp rfl .nil)) (fun w' hk => ?_)
        exact Ret.mk ((0, 21) : Int × Int) (.inr ⟨hbad (by unfold isD; omega), rfl, by decide⟩) rfl hk sA
      (repeat (refine gG ?_; try intro _))
      refine g_yd rfl rfl (yd_index (jj := (i : Int)) (j := undef) hT rfl rfl rfl (by omega) (idxV_sx rfl hy hyb)) ?_
      by_cases h57 : 57 < y
      · (repeat' (first | (refine gG ?_; try intro _) | ((first | refine g_split rfl rfl tE (fun _ => ?_) (fun _ => ?_) | refine gk_cond rfl rfl tE (fun _ => ?_) (fun _ => ?_)) <;> (try first | (exfalso; omega; done) | (rename_i hx; exact absurd rfl hx) | (rename_i hx; cases hx; done)))))
        refine gk_ret hT rfl rfl (.tmp rfl (.tmp rfl .nil)) (fun w' hk => ?_)
        exact Ret.mk ((0, 21) : Int × Int) (.inr ⟨hbad (by unfold isD; omega), rfl, by decide⟩) rfl hk sA
      have hd2 : ∀ z ∈ L.take (i + 1), isD z := fun z hz => by
        rw [ht] at hz
        rcases List.mem_append.1 hz with h | h
        · exact hd z h
        · obtain rfl := List.mem_singleton.1 h
          exact ⟨by omega, by omega⟩
      have hv2 : val (L.take (i + 1)) = 10 * val (L.take i) + (y - 48).toNat := by rw [ht, val_snoc]
      have hx := x.2
      cases b with
      | true =>
        have hov := ho rfl
        (repeat' (first | (refine gG ?_; try intro _) | ((first | refine g_split rfl rfl tE (fun _ => ?_) (fun _ => ?_) | refine gk_cond rfl rfl tE (fun _ => ?_) (fun _ => ?_)) <;> (try first | (exfalso; omega; done) | (rename_i hx; exact absurd rfl hx) | (rename_i hx; cases hx; done)))))
        refine g_pure false hT rfl rfl rfl trivial ?_
        (repeat (refine gG ?_; try intro _))
        have hw := wrap64 (x.1 * 10)
        refine g_pure false hT rfl rfl rfl trivial ?_
        (repeat (refine gG ?_; try intro _))
        refine gk_say 22 (.int .i64 ((i + 1 : Nat) : Int)) rfl (by first | (congr 1; done) | (congr 1; omega)) ?_
        refine gk_again_sel rfl (i + 1, ⟨_, wrap64 _⟩, true) ⟨hlt, hd2, fun h => (by cases h), fun _ => by rw [hv2]; omega⟩ (by dsimp only; omega) (by repeat (first | exact trivial | refine ⟨rfl, ?_⟩)) sA sS
      | false =>
        have hvx := hv rfl
        (repeat' (first | (refine gG ?_; try intro _) | ((first | refine g_split rfl rfl tE (fun _ => ?_) (fun _ => ?_) | refine gk_cond rfl rfl tE (fun _ => ?_) (fun _ => ?_)) <;> (try first | (exfalso; omega; done) | (rename_i hx; exact absurd rfl hx) | (rename_i hx; cases hx; done)))))
        by_cases hov : (18446744073709551615 - (y - 48)) / 10 < x.1
        · refine g_say 5 (.bool true) rfl (by rw [tB_true hov]) ?_
          refine g_pure false hT rfl rfl rfl trivial ?_
          (repeat (refine gG ?_; try intro _))
          have hw := wrap64 (x.1 * 10)
          refine g_pure false hT rfl rfl rfl trivial ?_
          (repeat (refine gG ?_; try intro _))
          refine gk_say 22 (.int .i64 ((i + 1 : Nat) : Int)) rfl (by first | (congr 1; done) | (congr 1; omega)) ?_
          refine gk_again_sel rfl (i + 1, ⟨_, wrap64 _⟩, true) ⟨hlt, hd2, fun h => (by cases h), fun _ => by rw [hv2]; omega⟩ (by dsimp only; omega) (by repeat (first | exact trivial | refine ⟨rfl, ?_⟩)) sA sS
        · refine g_say 5 (.bool false) rfl (by rw [tB_false hov]) ?_
          (repeat (refine gG ?_; try intro _))
          refine gk_say 22 (.int .i64 ((i + 1 : Nat) : Int)) rfl (by first | (congr 1; done) | (congr 1; omega)) ?_
          refine gk_again_sel rfl (i + 1, ⟨x.1 * 10 + (y - 48), by omega⟩, false) ⟨hlt, hd2, fun _ => by rw [hv2]; show x.1 * 10 + (y - 48) = _; omega, fun h => (by cases h)⟩ (by dsimp only; omega) (by repeat (first | exact trivial | refine ⟨rfl, ?_⟩)) sA sS
    · have ht : L.take i = L := List.take_of_length_le (by omega)
      rw [ht] at hd hv ho
      cases b with
      | true =>
        have hov := ho rfl
        (repeat' (first | (refine gG ?_; try intro _) | ((first | refine g_split rfl rfl tE (fun _ => ?_) (fun _ => ?_) | refine gk_cond rfl rfl tE (fun _ => ?_) (fun _ => ?_)) <;> (try first | (exfalso; omega; done) | (rename_i hx; exact absurd rfl hx) | (rename_i hx; cases hx; done)))))
        refine gk_ret hT rfl rfl (.tmp rfl (.tmp rfl .nil)) (fun w' hk => ?_)
        exact Ret.mk ((0, 50) : Int × Int) (.inr ⟨rdP_none fun h => by have := h.lt; omega, rfl, by decide⟩) rfl hk sA
      | false =>
        have hvx := hv rfl
        have hx := x.2
        (repeat' (first | (refine gG ?_; try intro _) | ((first | refine g_split rfl rfl tE (fun _ => ?_) (fun _ => ?_) | refine gk_cond rfl rfl tE (fun _ => ?_) (fun _ => ?_)) <;> (try first | (exfalso; omega; done) | (rename_i hx; exact absurd rfl hx) | (rename_i hx; cases hx; done)))))
        refine gk_ret hT rfl rfl (.tmp rfl (.tmp rfl .nil)) (fun w' hk => ?_)
        exact Ret.mk ((x.1, 0) : Int × Int) (.inl ⟨val L, rdP_some ⟨hL1, hlead, hd, by omega⟩, hvx, rfl, by omega⟩) rfl hk sA
end Go.Proofs.Ytmehbhabheokbaa.Ex

