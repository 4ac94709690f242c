/- vols.Resize. -/
import Derived.Test.YtbcdcjiibalnnaaCtM
import Derived.Test.YtbcdcjiibalnnaaCtK
namespace Go.Proofs.Ytbcdcjiibalnnaa.Ct
open Go.RowKit Mem Gx
set_option linter.unusedVariables false
set_option linter.unusedSimpArgs false
set_option maxRecDepth 100000
set_option maxHeartbeats 400000
theorem rs_own {w w' : World} {O R RA : List Fact} {α : Type} [Inhabited α] {base e sz n c : Nat} {A : Option Addr} {enc : α → Nat → Value} {L : List α} (hk : Kn [] w w' O R) (hm : own base e sz (.slice A n c) enc L ∈ O) : RS1 w w' RA (sl A sz enc L) := by
  refine ⟨own_slT hk hm, fun b hb => ?_⟩
  obtain ⟨_, a, ha, hab⟩ := hb
  have hS : (own base e sz (.slice A n c) enc L).S b := by
    subst ha
    subst hab
    rfl
  exact ⟨hk.ltO _ hm b hS, .inl (by
    rcases hk.ownS _ hm b hS with h | h
    · exact h
    · cases h)⟩
theorem flat_set {α : Type} [Inhabited α] {sz : Nat} {enc : α → Nat → Value} {L : List α} {i j : Nat} {x y : α} (hx : L[i]? = some x) (hj : j < sz) (hy : ∀ b, b < sz → b ≠ j → enc y b = enc x b) : (flatF sz enc L).set (i * sz + j) (enc y j) = flatF sz enc (L.set i y) := by
  have hi := (List.getElem?_eq_some_iff.1 hx).1
  have hlen : (flatF sz enc L).length = L.length * sz := flatF_length _ _ L
  have hlen2 : (flatF sz enc (L.set i y)).length = L.length * sz := by rw [flatF_length, List.length_set]
  apply List.ext_getElem?
  intro p
  by_cases hp : p < L.length * sz
  · have hsz : 0 < sz := by omega
    obtain ⟨a, b, ha, hb, rfl⟩ : ∃ a b, a < L.length ∧ b < sz ∧ p = a * sz + b := by
      refine ⟨p / sz, p % sz, ?_, Nat.mod_lt _ hsz, ?_⟩
      · exact Nat.div_lt_of_lt_mul (by rw [Nat.mul_comm]; exact hp)
      · rw [Nat.mul_comm]; exact (Nat.div_add_mod p sz).symm
    obtain ⟨z, hz⟩ : ∃ z, L[a]? = some z := ⟨L[a], List.getElem?_eq_getElem ha⟩
    by_cases e : a = i
    · subst e
      have e2 : (L.set a y)[a]? = some y := by simp [ha]
      rw [flatF_get sz enc (L.set a y) a b y e2 hb]
      by_cases e3 : b = j
      · subst e3
        rw [List.getElem?_set_self (by rw [hlen]; exact hp)]
      · rw [List.getElem?_set_ne (by omega), flatF_get sz enc L a b x hx hb, hy b hb e3]
    · have e2 : (L.set i y)[a]? = some z := by rw [List.getElem?_set_ne (fun h => e h.symm)]; exact hz
      rw [flatF_get sz enc (L.set i y) a b z e2 hb, List.getElem?_set_ne, flatF_get sz enc L a b z hz hb]
      intro h
      have h1 : (i * sz + j) / sz = (a * sz + b) / sz := by rw [h]
      rw [Nat.mul_comm, Nat.mul_add_div hsz, Nat.div_eq_of_lt hj, Nat.mul_comm a, Nat.mul_add_div hsz, Nat.div_eq_of_lt hb] at h1
      omega
  · rw [List.getElem?_eq_none (by rw [List.length_set]; omega), List.getElem?_eq_none (by omega)]
theorem lay_set {α : Type} [Inhabited α] {sz : Nat} {enc : α → Nat → Value} {L : List α} {rest : List Value} {i j : Nat} {x y : α} {v : Value} (hx : L[i]? = some x) (hj : j < sz) (hy : ∀ b, b < sz → b ≠ j → enc y b = enc x b) (hv : v = enc y j) : lay (flatF sz enc L ++ rest) (i * sz + j) [v] = flatF sz enc (L.set i y) ++ rest := by
  have hi := (List.getElem?_eq_some_iff.1 hx).1
  have h1 : i * sz + j < (flatF sz enc L).length := by
    rw [flatF_length]
    have : (i + 1) * sz ≤ L.length * sz := Nat.mul_le_mul_right _ hi
    rw [Nat.add_mul] at this
    omega
  have h2 : lay (flatF sz enc L ++ rest) (i * sz + j) [v] = (flatF sz enc L ++ rest).set (i * sz + j) v := by
    unfold lay
    rw [List.set_eq_take_append_cons_drop, if_pos (by rw [List.length_append]; omega)]
    simp
  rw [h2, List.set_append_left _ _ h1, hv, flat_set hx hj hy]
theorem pos_get {α : Type} {f : α → Int} {L : List α} {id : Int} {i : Nat} (h : pos (L.map f) id = some i) : ∃ x, L[i]? = some x ∧ f x = id ∧ i < L.length := by
  have h1 := (pos_some h).1
  rw [List.getElem?_map] at h1
  cases hx : L[i]? with
  | none => rw [hx] at h1; cases h1
  | some x => rw [hx] at h1; exact ⟨x, rfl, Option.some.inj h1, (List.getElem?_eq_some_iff.1 hx).1⟩
/-- Another size. -/
noncomputable def resP (c : CatD) (id m q : Int) : CatP × Int := match pos (c.V.map VolD.id) id with
  | some i => if (setD (c.V.getD i default).L q m).2 ≠ 0 then (CatD.z.p, (setD (c.V.getD i default).L q m).2) else (⟨c.nv, c.ng, c.nb, c.fl, (c.V.map VolD.d).set i ((c.V.getD i default).id, (c.V.getD i default).q, (setD (c.V.getD i default).L q m).1), c.G.map GrpD.d, c.B.map BokD.d, c.K, c.T⟩, 0)
  | none => (CatD.z.p, 40)
theorem res_none {c : CatD} {id m q : Int} (h : pos (c.V.map VolD.id) id = none) : resP c id m q = (CatD.z.p, 40) := by unfold resP; rw [h]
theorem res_bad {c : CatD} {id m q : Int} {i : Nat} {x : VolD} {M : List MarkD} {e : Int} (h : pos (c.V.map VolD.id) id = some i) (hx : c.V[i]? = some x) (hs : setD x.L q m = (M, e)) (he : ¬ e = 0) : resP c id m q = (CatD.z.p, e) := by
  have : c.V.getD i default = x := by rw [List.getD_eq_getElem?_getD, hx]; rfl
  unfold resP
  rw [h]
  simp only [this, hs]
  rw [if_pos he]
theorem res_ok {c : CatD} {id m q : Int} {i : Nat} {x : VolD} {M : List MarkD} (h : pos (c.V.map VolD.id) id = some i) (hx : c.V[i]? = some x) (hs : setD x.L q m = (M, 0)) (s : SlV) : resP c id m q = (⟨c.nv, c.ng, c.nb, c.fl, (c.V.set i ⟨x.id, x.q, s, M⟩).map VolD.d, c.G.map GrpD.d, c.B.map BokD.d, c.K, c.T⟩, 0) := by
  have : c.V.getD i default = x := by rw [List.getD_eq_getElem?_getD, hx]; rfl
  unfold resP
  rw [h]
  simp only [this, hs]
  rw [if_neg (fun h => h rfl), List.map_set]
theorem mem_set {α : Type} {P : α → Prop} {L : List α} {i : Nat} {y : α} (h : ∀ x, x ∈ L → P x) (hy : P y) : ∀ x, x ∈ L.set i y → P x := fun x hx => by
  rcases List.mem_or_eq_of_mem_set hx with h1 | h1
  · exact h x h1
  · rw [h1]; exact hy
/-- The marks that Set leaves have sizes. -/
theorem set_pos {L M : List MarkD} {q m e : Int} (h : setD L q m = (M, e)) (hL : ∀ y, y ∈ L → 0 ≤ y.n) : ∀ y, y ∈ M → 0 ≤ y.n := by
  by_cases h1 : m < 1 ∨ 32 < m ∨ ∃ z, L.getLast? = some z ∧ q ≤ z.s
  · rw [setD_bad h1] at h
    injection h with h _
    subst h
    intro y hy
    cases hy
  · by_cases h2 : nowD L = m
    · rw [setD_same h1 h2] at h
      injection h with h _
      subst h
      exact hL
    · by_cases h3 : 16 ≤ L.length
      · rw [setD_many h1 h2 h3] at h
        injection h with h _
        subst h
        intro y hy
        cases hy
      · rw [setD_new h1 h2 h3] at h
        injection h with h _
        subst h
        exact all_snoc hL (by show 0 ≤ m; have : ¬ m < 1 := fun h => h1 (.inl h); omega)
theorem vresize_any (c : CatD) (id m q : Int) (w : World) (hc : c.Ok) (h20 : c.V.length ≤ 20) (hR : ∀ x, x ∈ c.V → RightP x.L) (h : Rd1 w (catF c)) :
    Calls Try.prog 12 [c.val, .int .i64 id, .int .i64 m, .int .u64 q].toArray w (RetC2 c (resP c id m q) w) := by
  obtain ⟨nv, ng, nb, fl, ⟨vA, vm, vc⟩, V, ⟨gA, gm, gc⟩, G, ⟨bA, bm, bc⟩, B, ⟨kA, km, kd⟩, K, ⟨tA, tm, tc⟩, M⟩ := c
  have hn : vm = V.length := hc.v.n
  replace h20 : V.length ≤ 20 := h20
  replace hR : ∀ x, x ∈ V → RightP x.L := hR
  have hpl : ∀ w, Rd1 w (catF (⟨nv, ng, nb, fl, ⟨vA, vm, vc⟩, V, ⟨gA, gm, gc⟩, G, ⟨bA, bm, bc⟩, B, ⟨kA, km, kd⟩, K, ⟨tA, tm, tc⟩, M⟩ : CatD)) → Calls Try.prog 36 [.agg #[.int .i64 nv, .int .i64 ng, .int .i64 nb, .int .u64 fl, .slice vA vm vc, .slice gA gm gc, .slice bA bm bc, .slice kA km kd, .slice tA tm tc], .int .i64 id].toArray w fun e w' => e = .returned (.int .i64 (posV (V.map VolD.id) id)) ∧ Below w.heap.size w w' := fun w h => placeV_any (⟨nv, ng, nb, fl, ⟨vA, vm, vc⟩, V, ⟨gA, gm, gc⟩, G, ⟨bA, bm, bc⟩, B, ⟨kA, km, kd⟩, K, ⟨tA, tm, tc⟩, M⟩ : CatD) id w hc h
  cases hp : pos (V.map VolD.id) id with
  | none =>
    have e1 : posV (V.map VolD.id) id = -1 := by unfold posV; rw [hp]
    rw [e1] at hpl
    rw [res_none hp]
    dsimp only [CatD.val]
    refine g_enter0 T [] [] [catF (⟨nv, ng, nb, fl, ⟨vA, vm, vc⟩, V, ⟨gA, gm, gc⟩, G, ⟨bA, bm, bc⟩, B, ⟨kA, km, kd⟩, K, ⟨tA, tm, tc⟩, M⟩ : CatD)] Try.func12 rfl Try.ntmps12 rfl (Rds.cons h .nil).kn ?_
    (repeat' (first | (first | refine g_nil ?_ | refine g_pure true hT rfl rfl rfl sI ?_ | refine g_skip rfl rfl ?_ | refine g_skip0 rfl rfl ?_ | refine gk_region rfl ?_ | refine gk_cond_t rfl rfl ?_ | refine gk_cond_f rfl rfl ?_ | refine g_yd rfl rfl (yd_load_blk hT rfl rfl mE rfl rfl) ?_ | refine g_yd rfl rfl (yd_load_row hT rfl rfl mE rfl rfl) ?_ | refine g_yd rfl rfl (yd_load_row0 hT rfl rfl mE rfl rfl) ?_ | refine g_yd rfl rfl (yd_eql rfl rfl rfl rfl rfl (by kernel_rfl)) ?_ | refine g_yd rfl rfl (yd_neq rfl rfl rfl rfl rfl (by kernel_rfl)) ?_ | refine g_yd rfl rfl (yd_index hT rfl rfl rfl sI rfl) ?_ | refine g_yd rfl rfl (yd_slice_nil hT rfl rfl rfl rfl) ?_ | refine g_yd rfl rfl (yd_build_arr hT rfl rfl rfl rfl rfl rfl) ?_ | (refine g_mv rfl ?_; first | (refine mv_box rfl rfl rfl rfl ?_; intro _) | (refine mv_alloc rfl hT rfl rfl ?_; intro _) | refine mv_store hT rfl rfl rfl rfl rfl rfl sO rfl ?_ | (refine mv_buildSlice rfl hT rfl rfl rfl rfl rfl rfl rfl rfl ?_; intro _)) | refine g_yd rfl rfl (Ys.yd (ys_str_eql hT rfl rfl rfl rfl)) ?_ | refine g_yd rfl rfl (Ys.yd (ys_str_neq hT rfl rfl rfl rfl)) ?_) | (refine g_mv rfl ?_; first | refine mv_call_bel (fun w hk => hpl w (hk.rR mE)) rfl rfl rfl rfl rfl (by kernel_rfl) ?_) | ((first | refine g_split rfl rfl tE (fun _ => ?_) (fun _ => ?_) | refine gk_cond rfl rfl tE (fun _ => ?_) (fun _ => ?_)) <;> (try first | (exfalso; omega; done) | (rename_i hx; exact absurd rfl hx) | (rename_i hx; cases hx; done)))))
    refine gk_ret hT rfl rfl (.cell (cs := [.int .i64 0, .int .i64 0, .int .i64 0, .int .u64 0, .slice none 0 0, .slice none 0 0, .slice none 0 0, .slice none 0 0, .slice none 0 0]) (Tg := 29) rfl mE rfl rfl (.tmp rfl .nil)) (fun w' hk => ?_)
    exact RetS.mk (CatD.z, 40) ⟨z_ok, rfl⟩ rfl hk (.cons rs_z .nil)
  | some i =>
    have e1 : posV (V.map VolD.id) id = (i : Int) := by unfold posV; rw [hp]
    rw [e1] at hpl
    obtain ⟨x, hx, hxi, hi⟩ := pos_get hp
    have hxm := List.mem_of_getElem? hx
    have hxs : x.s.n = x.L.length := (hc.V x hxm).n
    have hxl := (hR x hxm).high
    obtain ⟨N, e, hse⟩ : ∃ N e, setD x.L q m = (N, e) := ⟨_, _, rfl⟩
    have hset : ∀ w, Rd1 w (sl x.s.A 2 ME x.L) → Calls Try.prog 32 [.slice x.s.A x.s.n x.s.c, .int .u64 q, .int .i64 m].toArray w (Ret (fun s : SlV => s.Ok N.length) (fun s => .tuple #[.slice s.A s.n s.c, .int .i64 e]) (fun s => [sl s.A 2 ME N]) w) := fun w h => by
      have := sset_any x.s.A x.s.n x.s.c x.L q m w hxs (by omega) (fun y hy => ⟨hc.m x hxm y hy, by
        obtain ⟨j, hj⟩ := List.getElem?_of_mem hy
        exact ((hR x hxm).at_ j y hj).2⟩) h
      rw [hse] at this
      exact this
    dsimp only [CatD.val]
    refine g_enter0 T [] [] [catF (⟨nv, ng, nb, fl, ⟨vA, vm, vc⟩, V, ⟨gA, gm, gc⟩, G, ⟨bA, bm, bc⟩, B, ⟨kA, km, kd⟩, K, ⟨tA, tm, tc⟩, M⟩ : CatD)] Try.func12 rfl Try.ntmps12 rfl (Rds.cons h .nil).kn ?_
    refine gk_der [catF (⟨nv, ng, nb, fl, ⟨vA, vm, vc⟩, V, ⟨gA, gm, gc⟩, G, ⟨bA, bm, bc⟩, B, ⟨kA, km, kd⟩, K, ⟨tA, tm, tc⟩, M⟩ : CatD)] (φ := sl vA 3 VE V) d_v sS ?_
    refine gk_der [catF (⟨nv, ng, nb, fl, ⟨vA, vm, vc⟩, V, ⟨gA, gm, gc⟩, G, ⟨bA, bm, bc⟩, B, ⟨kA, km, kd⟩, K, ⟨tA, tm, tc⟩, M⟩ : CatD)] (φ := sl x.s.A 2 ME x.L) (Der.elem (F := VolD.f) d_V hxm) sS ?_
    refine gk_elem (enc := VE) (L := V) i mE hi (by decide) (fun b o y eA hy => ?_)
    subst eA
    obtain rfl : x = y := by rw [hx] at hy; exact Option.some.inj hy
    (repeat' (first | (first | refine g_nil ?_ | refine g_pure true hT rfl rfl rfl sI ?_ | refine g_skip rfl rfl ?_ | refine g_skip0 rfl rfl ?_ | refine gk_region rfl ?_ | refine gk_cond_t rfl rfl ?_ | refine gk_cond_f rfl rfl ?_ | refine g_yd rfl rfl (yd_load_blk hT rfl rfl mE rfl rfl) ?_ | refine g_yd rfl rfl (yd_load_row hT rfl rfl mE rfl rfl) ?_ | refine g_yd rfl rfl (yd_load_row0 hT rfl rfl mE rfl rfl) ?_ | refine g_yd rfl rfl (yd_eql rfl rfl rfl rfl rfl (by kernel_rfl)) ?_ | refine g_yd rfl rfl (yd_neq rfl rfl rfl rfl rfl (by kernel_rfl)) ?_ | refine g_yd rfl rfl (yd_index hT rfl rfl rfl sI rfl) ?_ | refine g_yd rfl rfl (yd_slice_nil hT rfl rfl rfl rfl) ?_ | refine g_yd rfl rfl (yd_build_arr hT rfl rfl rfl rfl rfl rfl) ?_ | (refine g_mv rfl ?_; first | (refine mv_box rfl rfl rfl rfl ?_; intro _) | (refine mv_alloc rfl hT rfl rfl ?_; intro _) | refine mv_store hT rfl rfl rfl rfl rfl rfl sO rfl ?_ | (refine mv_buildSlice rfl hT rfl rfl rfl rfl rfl rfl rfl rfl ?_; intro _)) | refine g_yd rfl rfl (Ys.yd (ys_str_eql hT rfl rfl rfl rfl)) ?_ | refine g_yd rfl rfl (Ys.yd (ys_str_neq hT rfl rfl rfl rfl)) ?_) | (refine g_mv rfl ?_; first | refine mv_call_bel (fun w hk => hpl w (hk.rR mE)) rfl rfl rfl rfl rfl (by kernel_rfl) ?_) | ((first | refine g_split rfl rfl tE (fun _ => ?_) (fun _ => ?_) | refine gk_cond rfl rfl tE (fun _ => ?_) (fun _ => ?_)) <;> (try first | (exfalso; omega; done) | (rename_i hx; exact absurd rfl hx) | (rename_i hx; cases hx; done)))))
    refine g_mv rfl ?_; refine mv_call_rt (fun w hk => hset w (hk.rR (φ := sl x.s.A 2 ME x.L) mE)) rfl rfl rfl rfl rfl (by kernel_rfl) (fun _ => rfl) (fun s hs => ?_)
    by_cases he : e = 0
    · subst he
      rw [res_ok hp hx hse s]
      (repeat' (first | (first | refine g_nil ?_ | refine g_pure true hT rfl rfl rfl sI ?_ | refine g_skip rfl rfl ?_ | refine g_skip0 rfl rfl ?_ | refine gk_region rfl ?_ | refine gk_cond_t rfl rfl ?_ | refine gk_cond_f rfl rfl ?_ | refine g_yd rfl rfl (yd_load_blk hT rfl rfl mE rfl rfl) ?_ | refine g_yd rfl rfl (yd_load_row hT rfl rfl mE rfl rfl) ?_ | refine g_yd rfl rfl (yd_load_row0 hT rfl rfl mE rfl rfl) ?_ | refine g_yd rfl rfl (yd_eql rfl rfl rfl rfl rfl (by kernel_rfl)) ?_ | refine g_yd rfl rfl (yd_neq rfl rfl rfl rfl rfl (by kernel_rfl)) ?_ | refine g_yd rfl rfl (yd_index hT rfl rfl rfl sI rfl) ?_ | refine g_yd rfl rfl (yd_slice_nil hT rfl rfl rfl rfl) ?_ | refine g_yd rfl rfl (yd_build_arr hT rfl rfl rfl rfl rfl rfl) ?_ | (refine g_mv rfl ?_; first | (refine mv_box rfl rfl rfl rfl ?_; intro _) | (refine mv_alloc rfl hT rfl rfl ?_; intro _) | refine mv_store hT rfl rfl rfl rfl rfl rfl sO rfl ?_ | (refine mv_buildSlice rfl hT rfl rfl rfl rfl rfl rfl rfl rfl ?_; intro _)) | refine g_yd rfl rfl (Ys.yd (ys_str_eql hT rfl rfl rfl rfl)) ?_ | refine g_yd rfl rfl (Ys.yd (ys_str_neq hT rfl rfl rfl rfl)) ?_) | ((first | refine g_split rfl rfl tE (fun _ => ?_) (fun _ => ?_) | refine gk_cond rfl rfl tE (fun _ => ?_) (fun _ => ?_)) <;> (try first | (exfalso; omega; done) | (rename_i hx; exact absurd rfl hx) | (rename_i hx; cases hx; done)))))
      refine g_mv rfl ?_; refine mv_call_rt (fun w hk => cloneV_own (some ⟨b, o, none⟩) vm vc V w hn (by omega) (hk.pR (sl (some ⟨b, o, none⟩) 3 VE V) mE)) rfl rfl rfl rfl rfl (by kernel_rfl) (fun _ => rfl) (fun v1 _ => ?_)
      refine g_own0 v1 mE (by omega) (fun b1 c1 hv1 _ _ => ?_)
      subst hv1
      (repeat (first | refine g_nil ?_ | refine g_pure true hT rfl rfl rfl sI ?_ | refine g_skip rfl rfl ?_ | refine g_skip0 rfl rfl ?_ | refine gk_region rfl ?_ | refine gk_cond_t rfl rfl ?_ | refine gk_cond_f rfl rfl ?_ | refine g_yd rfl rfl (yd_load_blk hT rfl rfl mE rfl rfl) ?_ | refine g_yd rfl rfl (yd_load_row hT rfl rfl mE rfl rfl) ?_ | refine g_yd rfl rfl (yd_load_row0 hT rfl rfl mE rfl rfl) ?_ | refine g_yd rfl rfl (yd_eql rfl rfl rfl rfl rfl (by kernel_rfl)) ?_ | refine g_yd rfl rfl (yd_neq rfl rfl rfl rfl rfl (by kernel_rfl)) ?_ | refine g_yd rfl rfl (yd_index hT rfl rfl rfl sI rfl) ?_ | refine g_yd rfl rfl (yd_slice_nil hT rfl rfl rfl rfl) ?_ | refine g_yd rfl rfl (yd_build_arr hT rfl rfl rfl rfl rfl rfl) ?_ | (refine g_mv rfl ?_; first | (refine mv_box rfl rfl rfl rfl ?_; intro _) | (refine mv_alloc rfl hT rfl rfl ?_; intro _) | refine mv_store hT rfl rfl rfl rfl rfl rfl sO rfl ?_ | (refine mv_buildSlice rfl hT rfl rfl rfl rfl rfl rfl rfl rfl ?_; intro _)) | refine g_yd rfl rfl (Ys.yd (ys_str_eql hT rfl rfl rfl rfl)) ?_ | refine g_yd rfl rfl (Ys.yd (ys_str_neq hT rfl rfl rfl rfl)) ?_))
      refine g_own_blk (g := b1) (base := 0) (e := 60) (sz := 3) (n := V.length) (c := c1) (enc := VE) (L := V) (by decide) (by intro _; first | ((repeat (first | with_reducible exact Upd.here _ | with_reducible apply Upd.there)); done) | ((repeat (first | exact Upd.here _ | apply Upd.there)); done) | fail) (fun rest hr1 hr2 hr3 hr4 hr5 => ?_)
      have hr6 : (flatF 3 VE V).length = V.length * 3 := flatF_length _ _ V
      refine g_mv rfl (mv_storeL hT rfl rfl rfl rfl rfl rfl (by first | ((repeat (first | with_reducible exact Upd.here _ | with_reducible apply Upd.there)); done) | ((repeat (first | exact Upd.here _ | apply Upd.there)); done) | fail) (by show 0 + i * 3 + 2 + 1 ≤ _; rw [List.length_append]; omega) rfl ?_)
      have hlay : lay (flatF 3 VE V ++ rest) (0 + (i : Int).toNat * 3 + 2) [.slice s.A s.n s.c] = flatF 3 VE (V.set i ⟨x.id, x.q, s, N⟩) ++ rest := by
        rw [Nat.zero_add, Int.toNat_natCast]
        exact lay_set hx (by decide) (fun b hb hne => by
          rcases b with _ | _ | b
          · rfl
          · rfl
          · exact absurd (by omega) hne) rfl
      rw [hlay]
      have hr7 : (flatF 3 VE (V.set i ⟨x.id, x.q, s, N⟩)).length = V.length * 3 := by rw [flatF_length, List.length_set]
      refine g_blk_own (g := b1) (e := 60) (base := 0) (sz := 3) (enc := VE) (n := V.length) (c := c1) (V.set i ⟨x.id, x.q, s, N⟩) (by decide) (by first | ((repeat (first | with_reducible exact Upd.here _ | with_reducible apply Upd.there)); done) | ((repeat (first | exact Upd.here _ | apply Upd.there)); done) | fail) (by rw [List.length_append] at hr1 ⊢; omega) (by rw [List.length_set]) hr3 hr4 hr5 (by rw [List.take_append_of_le_length (by omega), List.take_of_length_le (by omega)]) ?_
      (repeat (first | refine g_nil ?_ | refine g_pure true hT rfl rfl rfl sI ?_ | refine g_skip rfl rfl ?_ | refine g_skip0 rfl rfl ?_ | refine gk_region rfl ?_ | refine gk_cond_t rfl rfl ?_ | refine gk_cond_f rfl rfl ?_ | refine g_yd rfl rfl (yd_load_blk hT rfl rfl mE rfl rfl) ?_ | refine g_yd rfl rfl (yd_load_row hT rfl rfl mE rfl rfl) ?_ | refine g_yd rfl rfl (yd_load_row0 hT rfl rfl mE rfl rfl) ?_ | refine g_yd rfl rfl (yd_eql rfl rfl rfl rfl rfl (by kernel_rfl)) ?_ | refine g_yd rfl rfl (yd_neq rfl rfl rfl rfl rfl (by kernel_rfl)) ?_ | refine g_yd rfl rfl (yd_index hT rfl rfl rfl sI rfl) ?_ | refine g_yd rfl rfl (yd_slice_nil hT rfl rfl rfl rfl) ?_ | refine g_yd rfl rfl (yd_build_arr hT rfl rfl rfl rfl rfl rfl) ?_ | (refine g_mv rfl ?_; first | (refine mv_box rfl rfl rfl rfl ?_; intro _) | (refine mv_alloc rfl hT rfl rfl ?_; intro _) | refine mv_store hT rfl rfl rfl rfl rfl rfl sO rfl ?_ | (refine mv_buildSlice rfl hT rfl rfl rfl rfl rfl rfl rfl rfl ?_; intro _)) | refine g_yd rfl rfl (Ys.yd (ys_str_eql hT rfl rfl rfl rfl)) ?_ | refine g_yd rfl rfl (Ys.yd (ys_str_neq hT rfl rfl rfl rfl)) ?_))
      refine gk_ret hT rfl rfl (.cell (cs := [.int .i64 nv, .int .i64 ng, .int .i64 nb, .int .u64 fl, .slice (some ⟨b1, 0, none⟩) V.length c1, .slice gA gm gc, .slice bA bm bc, .slice kA km kd, .slice tA tm tc]) (Tg := 29) rfl mE rfl rfl (.tmp rfl .nil)) (fun w' hk => ?_)
      exact RetS.mk ((⟨nv, ng, nb, fl, ⟨some ⟨b1, 0, none⟩, V.length, c1⟩, V.set i ⟨x.id, x.q, s, N⟩, ⟨gA, gm, gc⟩, G, ⟨bA, bm, bc⟩, B, ⟨kA, km, kd⟩, K, ⟨tA, tm, tc⟩, M⟩ : CatD), 0) ⟨⟨⟨by rw [List.length_set], hr3, hr4, fun h => by cases h⟩, hc.g, hc.b, hc.k, hc.t, mem_set hc.V hs, hc.G, hc.B, mem_set hc.m (set_pos hse (hc.m x hxm)), hc.nv, hc.ng, hc.nb⟩, rfl⟩ rfl hk (.cons (catF_rs (rs_own hk (base := 0) (e := 60) (n := V.length) (c := c1) mE) (RS1.all (mem_set (fun x hx => part_rs hk mE (Der.elem d_V hx)) (RS1.own hk (φ := sl s.A 2 ME N) mE))) (part_rs hk mE d_g) (part_rs hk mE d_G) (part_rs hk mE d_b) (part_rs hk mE d_B) (part_rs hk mE d_k) (part_rs hk mE d_t)) .nil)
    · rw [res_bad hp hx hse he]
      (repeat' (first | (first | refine g_nil ?_ | refine g_pure true hT rfl rfl rfl sI ?_ | refine g_skip rfl rfl ?_ | refine g_skip0 rfl rfl ?_ | refine gk_region rfl ?_ | refine gk_cond_t rfl rfl ?_ | refine gk_cond_f rfl rfl ?_ | refine g_yd rfl rfl (yd_load_blk hT rfl rfl mE rfl rfl) ?_ | refine g_yd rfl rfl (yd_load_row hT rfl rfl mE rfl rfl) ?_ | refine g_yd rfl rfl (yd_load_row0 hT rfl rfl mE rfl rfl) ?_ | refine g_yd rfl rfl (yd_eql rfl rfl rfl rfl rfl (by kernel_rfl)) ?_ | refine g_yd rfl rfl (yd_neq rfl rfl rfl rfl rfl (by kernel_rfl)) ?_ | refine g_yd rfl rfl (yd_index hT rfl rfl rfl sI rfl) ?_ | refine g_yd rfl rfl (yd_slice_nil hT rfl rfl rfl rfl) ?_ | refine g_yd rfl rfl (yd_build_arr hT rfl rfl rfl rfl rfl rfl) ?_ | (refine g_mv rfl ?_; first | (refine mv_box rfl rfl rfl rfl ?_; intro _) | (refine mv_alloc rfl hT rfl rfl ?_; intro _) | refine mv_store hT rfl rfl rfl rfl rfl rfl sO rfl ?_ | (refine mv_buildSlice rfl hT rfl rfl rfl rfl rfl rfl rfl rfl ?_; intro _)) | refine g_yd rfl rfl (Ys.yd (ys_str_eql hT rfl rfl rfl rfl)) ?_ | refine g_yd rfl rfl (Ys.yd (ys_str_neq hT rfl rfl rfl rfl)) ?_) | ((first | refine g_split rfl rfl tE (fun _ => ?_) (fun _ => ?_) | refine gk_cond rfl rfl tE (fun _ => ?_) (fun _ => ?_)) <;> (try first | (exfalso; omega; done) | (rename_i hx; exact absurd rfl hx) | (rename_i hx; cases hx; done)))))
      refine gk_ret hT rfl rfl (.cell (cs := [.int .i64 0, .int .i64 0, .int .i64 0, .int .u64 0, .slice none 0 0, .slice none 0 0, .slice none 0 0, .slice none 0 0, .slice none 0 0]) (Tg := 29) rfl mE rfl rfl (.tmp rfl .nil)) (fun w' hk => ?_)
      exact RetS.mk (CatD.z, e) ⟨z_ok, rfl⟩ rfl hk (.cons rs_z .nil)
end Go.Proofs.Ytbcdcjiibalnnaa.Ct

