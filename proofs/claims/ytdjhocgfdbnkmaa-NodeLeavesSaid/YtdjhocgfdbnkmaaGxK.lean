/- The walk by reckoned steps: append of zeros where there is no room; slices.overlaps of two blocks. -/
import Derived.Test.YtdjhocgfdbnkmaaGxJ
import Derived.Laws.Externs
import Derived.Test.YtdjhocgfdbnkmaaGxE
namespace Go.Proofs.Ytdjhocgfdbnkmaa.Gx
open Go.RowKit Mem
set_option linter.unusedVariables false
set_option linter.unusedSimpArgs false
section
variable {X : Cx} {f : Fr} {O O' R : List Fact} {ks k : List KI} {ops lo : List Oper} {E : List Nat} {w0 w w' : World} {o : Oper} {N : Fr → List Fact → List Fact → Prop} {g T : Nat} {cs : List Value}
theorem mv_zeros {dd : Nat} (hd : o.dst = some dd) {c : Call} {n cc j t tn sz bytes : Nat} {kq kn : IntKind} {iv : Int} (ho : o.op = .call c) (hc : c.callee = .builtin .append) (ha : lookL X.n f c.args.toList = some [.slice (some ⟨g, 0, none⟩) n cc, .int kq iv]) (hat : c.argTypes.toList = [t, tn])
    (hE : Elt X.P t T sz bytes) (htn : X.P.underlying tn = some (.int kn)) (hm : blk g cs T ∈ O) (hj : iv = j) (h0 : 0 < j) (hroom : cc < n + j) (hfit : n * sz ≤ cs.length) (h63 : n + j ≤ maxLen) (hbytes : (n + j) * bytes ≤ 140737488355328)
    (hg : ∀ (g' cap : Nat) (zs : List Value), X.w0.heap.size ≤ g' → n + j ≤ cap → cap ≤ maxLen → zs.length = (cap - n) * sz → N ((dd, .slice (some ⟨g', 0, none⟩) (n + j) cap) :: f) (blk g' (cs.take (n * sz) ++ zs) T :: O) R) : Mv X f O R o N := fun ac w hr hk K Q hK => by
  have hargs := lookL_eq hr ha
  obtain ⟨ca, args, tys⟩ := c
  obtain ⟨args⟩ := args
  obtain ⟨tys⟩ := tys
  simp only at hc hat hargs
  subst hc
  obtain ⟨i, z, hi, hz, hsz, hby, hzs⟩ := hE.hi
  have hpos := hE.pos
  subst hsz
  subst hby
  have hb : w.heap[g]? = some (.cells cs.toArray T (0, 0)) := hk.pO _ hm
  match args, hargs with
  | [x, y], hargs =>
    simp at hargs
    obtain ⟨e1, e2⟩ := hargs
    subst hat
    subst hj
    have hl : (cs.take (n * i.size)).length = n * i.size := by rw [List.length_take]; omega
    have hold : (Builtin.firstCells i.size n (.slice (some ⟨g, 0, none⟩) n cc)).run X.P w.drew = .ok (cs.take (n * i.size)).toArray w.drew :=
      run_firstCells_some (P := X.P) w.drew i.size n ⟨g, 0, none⟩ n cc _ hl (fun q v hv => by
        have hq : q < n * i.size := by have := (List.getElem?_eq_some_iff.1 hv).1; omega
        rw [List.getElem?_take, if_pos hq] at hv
        rw [add_at, Nat.zero_add]
        show w.cell? ⟨g, q, none⟩ = some v
        rw [cell_of_row w g q cs.toArray T (0, 0) hb]
        simpa using hv)
    have hmx : n + j ≤ 9223372036854775807 := by unfold maxLen at h63; omega
    have hjb : j * i.bytes ≤ (n + j) * i.bytes := Nat.mul_le_mul_right _ (by omega)
    have hrun := Lib.run_append_grow_zeros (P := X.P) w t tn o.type T i z kq kn hE.ht htn hi hz (some ⟨g, 0, none⟩) n cc _ hold j h0 hpos hroom (by omega) (by omega) (growslice_fits (by omega) hbytes)
    have hge := grownCap_ge w (n + j) cc T
    have hcm := grownCap_le_maxLen w (n + j) cc T h63
    obtain ⟨zs, hzl, e3⟩ : ∃ zs : List Value, zs.length = (grownCap w (n + j) cc T - n) * i.size ∧ (cs.take (n * i.size)).toArray ++ Builtin.zeroCells z.cells j ++ Builtin.zeroCells z.cells (grownCap w (n + j) cc T - (n + j)) = (cs.take (n * i.size) ++ zs).toArray := by
      refine ⟨(Builtin.zeroCells z.cells j).toList ++ (Builtin.zeroCells z.cells (grownCap w (n + j) cc T - (n + j))).toList, ?_, ?_⟩
      · rw [List.length_append]
        simp only [Array.length_toList, Go.size_zeroCells, hzs]
        rw [← Nat.add_mul]
        congr 1
        omega
      · apply Array.ext'
        simp
    rw [e3] at hrun
    unfold Oper.wp execOp
    simp only [ho, resolve, invoke, builtin, Sem.run_bind, Sem.run_pure, Result.andThen_ok, List.map_toArray, List.map_cons, List.map_nil, e1, e2, hrun]
    exact hK _ _ _ _ _ (hg w.heap.size _ zs hk.size hge hcm hzl) (hr.put1 hd _) (Kn.alloc (hk.below (bel_drew (Below.refl _ _))) _ T)
  | [], hargs => simp at hargs
  | [_], hargs => simp at hargs
  | _ :: _ :: _ :: _, hargs => simp at hargs
theorem mv_overlaps {dd : Nat} (hd : o.dst = some dd) {c : Call} {x : Operand} {fid : Nat} {fn : Func} {g1 g2 o1 o2 la ca lb cb tS tR e sz T1 T2 : Nat} {cs1 cs2 : List Value} (ho : o.op = .call c) (hc : c.callee = .value x) (hx : look X.n f x = some (.func (.func fid) #[] #[]))
    (ha : lookL X.n f c.args.toList = some [.slice (some ⟨g1, o1, none⟩) la ca, .slice (some ⟨g2, o2, none⟩) lb cb]) (hf : X.P.funcs[fid]? = some fn) (hname : (fn.name == "runtime.NumGoroutine") = false) (hb : fn.body.isNone = true) (hn : Extern.findNext fn = none) (he : Extern.find fn = some (Extern.SlicesOverlaps.overlaps #[tS, tS] #[tR]))
    (ht : X.P.underlying tS = some (.slice e)) (hz : szIs X.P e sz = true) (h1 : blk g1 cs1 T1 ∈ R) (h2 : blk g2 cs2 T2 ∈ O) (hk2 : cs2.length ≠ 0) (hg : N ((dd, .bool false) :: f) O R) : Mv X f O R o N := fun ac w hr hk K Q hK => by
  have ha' := lookL_eq hr ha
  have hx' := hr.look hx
  have hb1 : w.heap[g1]? = some (.cells cs1.toArray T1 (0, 0)) := hk.pR _ h1
  have hb2 : w.heap[g2]? = some (.cells cs2.toArray T2 (0, 0)) := hk.pO _ h2
  have hne : g1 ≠ g2 := fun h => hk.disR _ h2 _ h1 g2 rfl h.symm
  have hs1 : w.shape? g1 = some (T1, cs1.toArray.size) := by unfold World.shape?; rw [hb1]
  have hs2 : w.shape? g2 = some (T2, cs2.toArray.size) := by unfold World.shape?; rw [hb2]
  have hov := Lib.run_overlaps_apart (P := X.P) w tS tR e ht sz (fun w => run_sizeOf hz w) ⟨g1, o1, none⟩ ⟨g2, o2, none⟩ la ca lb cb hne T1 T2 _ _ hs1 hs2 (by simpa using hk2) (by unfold World.frozen?; rw [hb1]; simp) (by unfold World.frozen?; rw [hb1]; simp)
  have hcall := run_callFunc_extern (P := X.P) hf hname hb hn he #[.slice (some ⟨g1, o1, none⟩) la ca, .slice (some ⟨g2, o2, none⟩) lb cb] w
  rw [hov] at hcall
  obtain ⟨cal, args, tys⟩ := c
  simp only at hc ha'
  subst hc
  have e' : args.map ac.eval = #[.slice (some ⟨g1, o1, none⟩) la ca, .slice (some ⟨g2, o2, none⟩) lb cb] := by apply Array.ext'; simpa using ha'
  unfold Oper.wp
  have : (execOp ac.eval o).run X.P w = .ok (.value (.bool false)) w := by
    simp [execOp, ho, resolve, hx', Deferred.ofValue, invoke, e', hcall]
  rw [this]
  exact hK _ _ _ _ _ hg (hr.put1 hd _) hk
theorem srcc_blkR {o m : Nat} (h : blk g cs T ∈ R) (vs : List Value) (he : vs = (cs.drop o).take m) : SrcC X O R ⟨g, o, none⟩ vs := fun w hk j v hv => by
  have hb : w.heap[g]? = some (.cells cs.toArray T (0, 0)) := hk.pR _ h
  rw [add_at, cell_of_row w g _ cs.toArray T (0, 0) hb]
  subst he
  have hj : j < ((cs.drop o).take m).length := (List.getElem?_eq_some_iff.1 hv).1
  rw [List.length_take] at hj
  rw [List.getElem?_take, if_pos (by omega), List.getElem?_drop] at hv
  simpa using hv
theorem srcc_nil {a : Addr} : SrcC X O R a [] := fun w hk j v hv => by simp at hv
theorem shA_at {g l m s : Nat} (h : m ≠ l) : shA (some ⟨g, 0, none⟩) l m s = some ⟨g, l * s, none⟩ := by
  unfold shA; rw [if_neg h, Option.map_some, add_at, Nat.zero_add]
theorem shA_0 {A : Option Addr} {m s : Nat} : shA A 0 m s = A := by
  unfold shA
  split
  · rfl
  · cases A with
    | none => rfl
    | some a => rw [Option.map_some, Nat.zero_mul]; unfold Addr.add; rw [if_pos rfl]
theorem shA_any {g l m s : Nat} : ∃ o, shA (some ⟨g, 0, none⟩) l m s = some ⟨g, o, none⟩ ∧ (m ≠ l → o = l * s) := by
  by_cases h : m = l
  · exact ⟨0, by unfold shA; rw [if_pos h], fun h' => absurd h h'⟩
  · exact ⟨l * s, shA_at h, fun _ => rfl⟩
theorem ys_slice_lhm (hT : TabOk X.P X.T) {S : List Fact} {ty t e sz s : Nat} {z : List Value} {x lo hi mx : Operand} {A : Option Addr} {n c : Nat} {kl kh km : IntKind} {iv ih im : Int} (j h m : Nat) (ho : o.op = .slice ty x (some lo) (some hi) (some mx)) (hx : look X.n f x = some (.slice A n c)) (hl : look X.n f lo = some (.int kl iv)) (hh : look X.n f hi = some (.int kh ih)) (hmx : look X.n f mx = some (.int km im)) (hty : tfind X.T ty = some ⟨t, .slice e sz, s, z⟩)
    (hj : iv = j) (hih : ih = h) (him : im = m) (hjh : j ≤ h) (hhm : h ≤ m) (hmc : m ≤ c) : Ys X S f o (.slice (shA A j m sz) (h - j) (m - j)) := fun a w hr hk => by
  obtain ⟨ht, hk1⟩ := tfind_ok hT hty
  simp only at ht
  subst ht
  subst hj
  subst hih
  subst him
  obtain ⟨hu0, hes⟩ := chk_slice hk1.d
  have hu : X.P.underlying t = some (.slice e) := hu0
  obtain ⟨h1, h2⟩ := run_sl hu hes w A n c
  have h3 := run_slice_lhm (P := X.P) (w := w) t A n c h1 kl kh km (j : Int) (h : Int) (m : Int) (by omega) (by omega) (by omega) (by omega)
  rw [h2] at h3
  simp only [Result.andThen_ok, sliced, Int.toNat_natCast] at h3
  simp [execOp, ho, hr.look hx, hr.look hl, hr.look hh, hr.look hmx, run_sliceAt_slice (P := X.P) w t _ _ _ _ h1, h3, shA]
theorem mv_storeL (hT : TabOk X.P X.T) {ty : Nat} {ad vl : Operand} {off t sz : Nat} {d : TD} {z vs : List Value} {v : Value} (ho : o.op = .store ty ad vl)
    (hx : look X.n f ad = some (.pointer (some ⟨g, off, none⟩))) (hv : look X.n f vl = some v) (hty : tfind X.T ty = some ⟨t, d, sz, z⟩) (hc : cellsN v sz (agg? d) = some vs) (h1 : vs.all oneB = true) (hu : Upd (blk g cs T) (blk g (lay cs off vs) T) O O') (hfit : off + vs.length ≤ cs.length)
    (hd : o.dst = none) (hg : N f O' R) : Mv X f O R o N := fun a w hr hk K Q hK => by
  unfold Oper.wp
  have hty' := tfind_ok hT hty
  have e1 := hty'.1
  simp only at e1
  subst e1
  obtain ⟨c1, c2, _⟩ := cellsN_eq hc
  have hb : w.heap[g]? = some (.cells cs.toArray T (0, 0)) := hk.pO _ hu.mem
  have r1 := run_storeCells_at X.P g off T vs 0 cs.toArray w hb (by simpa using hfit) (fun x hx' => oneB_eq (List.all_eq_true.1 h1 x hx'))
  have hsz : v.cells.size = sz := by rw [← Array.length_toList, c1, c2]
  have : (execOp a.eval o).run X.P w = .ok .skip (w.setRow g (lay cs off vs).toArray) := by
    simp only [Nat.add_zero] at r1
    simp [execOp, ho, hr.look hx, hr.look hv, Instr.storeAt, Instr.sureAddr, storeVar, run_sizeOf hty'.2.sz w, hsz, c1, r1, lay]
  rw [this]
  exact hK _ _ _ _ _ hg (hr.put0 hd _) (Kn.setRow hk hu)
theorem lay_app (A zs vs : List Value) {o : Nat} (ho : o = A.length) : lay (A ++ zs) o vs = A ++ vs ++ zs.drop vs.length := by
  subst ho
  unfold lay
  rw [List.take_left, ← List.drop_drop, List.drop_left]
theorem lay_app2 (A zs vs : List Value) {o k : Nat} (ho : o = A.length + k) : lay (A ++ zs) o vs = A ++ lay zs k vs := by
  subst ho
  unfold lay
  rw [List.take_length_add_append, Nat.add_assoc, List.drop_length_add_append]
  simp [List.append_assoc]
theorem src_blkR {α : Type} [Inhabited α] {sz : Nat} {enc : α → Nat → Value} {M : List α} (h : blk g cs T ∈ R) (he : cs = flatF sz enc M) : Src X O R (some ⟨g, 0, none⟩) sz enc M := fun w hk hn => by
  have hb : w.heap[g]? = some (.cells cs.toArray T (0, 0)) := hk.pR _ h
  refine ⟨g, 0, rfl, fun i hi j hj => ?_⟩
  have hy : M[i]? = some M[i] := List.getElem?_eq_getElem hi
  rw [Nat.zero_add, cell_of_row w g _ cs.toArray T (0, 0) hb, LF_at hy, he]
  simpa using flatF_get sz enc M i j _ hy hj
theorem Kn.outG' {α : Type} [Inhabited α] {base e sz b n c off : Nat} {v : Value} {enc : α → Nat → Value} {L : List α} (h : Kn (ownE v) w0 w O R) (hm : own base e sz (.slice (some ⟨b, off, none⟩) n c) enc L ∈ O) : OwnL w base e sz (.slice (some ⟨b, off, none⟩) n c) enc L ∧ Grew w0 w v (.slice (some ⟨b, off, none⟩) n c) := by
  have ho : OwnL w base e sz (.slice (some ⟨b, off, none⟩) n c) enc L := h.pO _ hm
  refine ⟨ho, ⟨h.os, h.tape, h.output, h.size, fun i hi hne => h.block i hi (fun hE => hne (ownE_mem.1 hE).symm)⟩, ?_⟩
  have hb : (Value.slice (some ⟨b, off, none⟩) n c).ownBlock = some b := rfl
  rcases h.ownS _ hm b hb with h1 | h1
  · exact .inr ⟨b, hb, h1⟩
  · exact .inl (hb.trans (ownE_mem.1 h1).symm)
theorem ys_cap {S : List Fact} (hT : TabOk X.P X.T) {c : Call} {A : Option Addr} {n cc ty tt e sz s : Nat} {z : List Value} (ho : o.op = .call c) (hc : c.callee = .builtin .cap) (ha : lookL X.n f c.args.toList = some [.slice A n cc]) (hat : c.argTypes.toList = [ty]) (hty : tfind X.T ty = some ⟨tt, .slice e sz, s, z⟩) : Ys X S f o (.int .i64 (cc : Int)) := fun ac w hr _ => by
  have hargs := lookL_eq hr ha
  obtain ⟨ca, args, tys⟩ := c
  obtain ⟨args⟩ := args
  obtain ⟨tys⟩ := tys
  simp only at hc hat hargs
  subst hc
  obtain ⟨ht, hk1⟩ := tfind_ok hT hty
  simp only at ht
  subst ht
  obtain ⟨hu1, hs1⟩ := chk_slice hk1.d
  match args, hargs with
  | [x], hargs =>
    simp at hargs
    subst hat
    have hrun : (Builtin.cap_ #[tt] o.type #[.slice A n cc]).run X.P w = .ok (.int .i64 (cc : Int)) w := by
      simp [Builtin.cap_, goInt, run_underlying hu1]
    unfold execOp
    simp only [ho, resolve, invoke, builtin, Sem.run_bind, Sem.run_pure, Result.andThen_ok, List.map_toArray, List.map_cons, List.map_nil, hargs, hrun]
  | [], hargs => simp at hargs
  | _ :: _ :: _, hargs => simp at hargs
theorem mv_call_re {α : Type} [Inhabited α] {e base sz : Nat} {v : Value} {enc : α → Nat → Value} {L M : List α} {OO : Value → List Fact} {fid : Nat} {args : List Value} (h : ∀ w, Kn X.E X.w0 w O R → Calls X.P fid args.toArray w (fun e' w' => ∃ v', e' = .returned v' ∧ OwnL w' base e sz v' enc M ∧ Grew w w' v v')) {dd : Nat} (hd : o.dst = some dd) {c : Call} {x : Operand} (ho : o.op = .call c) (hc : c.callee = .value x) (hx : look X.n f x = some (.func (.func fid) #[] #[])) (ha : lookL X.n f c.args.toList = some args) (hok : callable X.P fid = true)
    (hu : ∀ v', Upd (own base e sz v enc L) (own base e sz v' enc M) O (OO v')) (hg : ∀ v', N ((dd, v') :: f) (OO v') R) : Mv X f O R o N :=
  mv_call hd ho hc hx ha hok fun w hk => (h w hk).mono fun e w' ⟨v', he, h2, h3⟩ => ⟨v', _, _, he, Kn.grew hk h3 h2 (hu v'), hg v'⟩
theorem own_at0 {α : Type} [Inhabited α] {base e sz : Nat} {v : Value} {enc : α → Nat → Value} {L : List α} (h : OwnL w base e sz v enc L) (hL : 0 < L.length) : ∃ b c, v = .slice (some ⟨b, 0, none⟩) L.length c ∧ L.length ≤ c ∧ c ≤ maxLen := by
  rcases h.2 with ⟨_, h2⟩ | ⟨g, cap, cur, hv, hb, hg, hn, hm, _⟩
  · omega
  · exact ⟨g, cap, hv, hn, hm⟩
theorem gk_own0 {α : Type} [Inhabited α] {base e sz : Nat} (v : Value) {enc : α → Nat → Value} {L : List α} (hm : own base e sz v enc L ∈ O) (hL : 0 < L.length)
    (hg : ∀ b c, v = .slice (some ⟨b, 0, none⟩) L.length c → L.length ≤ c → c ≤ maxLen → GK X ks f O R) : GK X ks f O R := .mk fun a w hr hk => by
  obtain ⟨b, c, h1, h2, h3⟩ := own_at0 (hk.pO _ hm : OwnL w base e sz v enc L) hL
  exact (hg b c h1 h2 h3).out a w hr hk
theorem g_own0 {α : Type} [Inhabited α] {base e sz : Nat} (v : Value) {enc : α → Nat → Value} {L : List α} (hm : own base e sz v enc L ∈ O) (hL : 0 < L.length)
    (hg : ∀ b c, v = .slice (some ⟨b, 0, none⟩) L.length c → L.length ≤ c → c ≤ maxLen → G X ops lo k f O R) : G X ops lo k f O R := .mk fun a w hr hk => by
  obtain ⟨b, c, h1, h2, h3⟩ := own_at0 (hk.pO _ hm : OwnL w base e sz v enc L) hL
  exact (hg b c h1 h2 h3).out a w hr hk
end
end Go.Proofs.Ytdjhocgfdbnkmaa.Gx
