/- How many nodes have no block yet; how many there are: store.fresh, law 36's count. Own facts said otherwise; what is read becomes one's own; a saver and its state. -/
import Derived.Test.YtaghmffgoomebaaGreatSv2
import Derived.Test.YtaghmffgoomebaaGreatSt1
namespace Go.Proofs.YtaghmffgoomebaaGreat.St
open Go.RowKit Mem Gx Bytes Dk Al Rf Hp Nd Ch
open Tr hiding T row
set_option linter.unusedVariables false
set_option linter.unusedSimpArgs false
set_option maxRecDepth 100000
set_option maxHeartbeats 4000000
theorem take_sum {vs : List Nat} {i v : Nat} (h : vs[i]? = some v) : (vs.take (i + 1)).sum = (vs.take i).sum + v ∧ (vs.take (i + 1)).sum ≤ vs.sum := by
  obtain ⟨hi, e⟩ := List.getElem?_eq_some_iff.1 h
  rw [List.take_succ_eq_append_getElem hi, e, List.sum_append, List.sum_singleton]
  refine ⟨rfl, ?_⟩
  have k : vs.sum = (vs.take i).sum + (v + (vs.drop (i + 1)).sum) := by
    conv => lhs; rw [← List.take_append_drop i vs, List.sum_append, List.drop_eq_getElem_cons hi, e, List.sum_cons]
  omega
theorem frN_le (d : NodeD) : frN d ≤ 1 := by unfold frN; split <;> omega
theorem fresh_node (F : Fact) (d : NodeD) (vs : List Nat) (w : World) (hok : d.Ok) (hl : vs.length = d.Cs.length) (hb : vs.sum ≤ 10000) (hkid : ∀ (i g v : Nat), d.Cs[i]? = some g → vs[i]? = some v → ∀ w, Rd1 w F → Calls Tryz.prog 41 [.pointer (some ⟨g, 0, none⟩)].toArray w fun e w' => e = .returned (.int .i64 (v : Int)) ∧ Below w.heap.size w w') (hF : Rd1 w F) (hD : Der [F] (nodeF d)) :
    Calls Tryz.prog 41 [.pointer (some ⟨d.g, 0, none⟩)].toArray w fun e w' => e = .returned (.int .i64 ((vs.sum + frN d : Nat) : Int)) ∧ Below w.heap.size w w' := by
  have hN : Rd1 w (nodeF d) := hD.rd fun ψ hψ => by obtain rfl := List.mem_singleton.1 hψ; exact hF
  obtain ⟨g, lf, ⟨KA, Kn, Kc⟩, Ks, ⟨VA, Vn, Vc⟩, Vs, ⟨CA, Cn, Cc⟩, Cs, a⟩ := d
  have hCn : Cn = Cs.length := hok.C.n
  have hC9 := hok.C.c
  have hC8 := hok.C.mx
  unfold maxLen at hC8
  dsimp only at hl hkid hC9 hC8
  subst hCn
  obtain ⟨m, hm⟩ : ∃ m, m = frN ⟨g, lf, ⟨KA, Kn, Kc⟩, Ks, ⟨VA, Vn, Vc⟩, Vs, ⟨CA, Cs.length, Cc⟩, Cs, a⟩ := ⟨_, rfl⟩
  rw [← hm]
  have hm1 : m ≤ 1 := hm ▸ frN_le _
  refine g_enter0 T [] [] [F, blk g [.bool lf, .slice KA Kn Kc, .slice VA Vn Vc, .slice CA Cs.length Cc, .int .u32 a] 109, sl CA 1 PE Cs] Tryz.func41 rfl Tryz.ntmps41 rfl (Rds.cons hF (.cons (Rd1.open (F := id) hN (x := blk g [.bool lf, .slice KA Kn Kc, .slice VA Vn Vc, .slice CA Cs.length Cc, .int .u32 a] 109) (.head _)) (.cons (Rd1.open (F := id) hN (x := sl CA 1 PE Cs) (.tail _ (.tail _ (.tail _ (.head _))))) .nil))).kn ?_
  refine gk_rowR (g := g) mE ?_
  by_cases ha : a = 0
  · have hm0 : m = 1 := by rw [hm]; unfold frN; rw [if_pos ha]
    subst ha
    (repeat' (first | (refine gG ?_; try intro _) | ((first | refine g_split rfl rfl tE (fun _ => ?_) (fun _ => ?_) | refine gk_cond rfl rfl tE (fun _ => ?_) (fun _ => ?_)) <;> (try first | (exfalso; omega; done) | (rename_i hx; exact absurd rfl hx) | (rename_i hx; cases hx; done)))))
    refine gk_say (v := .int .i64 1) 3 (.int .i64 ((m + (vs.take 0).sum : Nat) : Int)) rfl (by rw [hm0]; rfl) ?_
    refine gk_loop_sel (fun (i : Nat) => i ≤ Cs.length) (fun (i : Nat) => [(3, .int .i64 ((m + (vs.take i).sum : Nat) : Int)), (14, .slice CA Cs.length Cc), (15, .int .i64 (Cs.length : Nat)), (16, .int .i64 i)]) (fun (i : Nat) => []) (fun (i : Nat) => [F, sl CA 1 PE Cs]) (fun (i : Nat) => Cs.length - i) 0 rfl (Nat.zero_le _) (by repeat (first | exact trivial | refine ⟨rfl, ?_⟩)) sA sS ?_
    rintro i hI
    replace hI : i ≤ Cs.length := hI
    change GK _ _ [(3, .int .i64 ((m + (vs.take i).sum : Nat) : Int)), (14, .slice CA Cs.length Cc), (15, .int .i64 (Cs.length : Nat)), (16, .int .i64 i)] [] [F, sl CA 1 PE Cs]
    by_cases hlt : i < Cs.length
    · obtain ⟨v, hv⟩ : ∃ v, vs[i]? = some v := ⟨vs[i], List.getElem?_eq_getElem (by omega)⟩
      have hs := take_sum hv
      refine gk_elem (A := CA) (enc := PE) (L := Cs) i mE hlt (by decide) (fun b off y eA hy => ?_)
      subst eA
      (repeat' (first | (refine gG ?_; try intro _) | ((first | refine g_split rfl rfl tE (fun _ => ?_) (fun _ => ?_) | refine gk_cond rfl rfl tE (fun _ => ?_) (fun _ => ?_)) <;> (try first | (exfalso; omega; done) | (rename_i hx; exact absurd rfl hx) | (rename_i hx; cases hx; done)))))
      refine g_mv rfl ?_; refine mv_call_bel (fun w hk => hkid i y v hy hv w (hk.rR (φ := F) mE)) rfl rfl rfl rfl rfl (by kernel_rfl) ?_
      (repeat' (first | (refine gG ?_; try intro _) | ((first | refine g_split rfl rfl tE (fun _ => ?_) (fun _ => ?_) | refine gk_cond rfl rfl tE (fun _ => ?_) (fun _ => ?_)) <;> (try first | (exfalso; omega; done) | (rename_i hx; exact absurd rfl hx) | (rename_i hx; cases hx; done)))))
      refine gk_say 3 (.int .i64 ((m + (vs.take (i + 1)).sum : Nat) : Int)) rfl (by congr 1; omega) ?_
      refine gk_again_sel rfl (i + 1) (by omega) (by omega) (by repeat (first | exact trivial | refine ⟨rfl, ?_⟩)) sA sS
    · have hi : i = vs.length := by omega
      subst hi
      rw [List.take_length]
      (repeat' (first | (refine gG ?_; try intro _) | ((first | refine g_split rfl rfl tE (fun _ => ?_) (fun _ => ?_) | refine gk_cond rfl rfl tE (fun _ => ?_) (fun _ => ?_)) <;> (try first | (exfalso; omega; done) | (rename_i hx; exact absurd rfl hx) | (rename_i hx; cases hx; done)))))
      refine gk_ret hT rfl rfl (.tmp rfl .nil) (fun w' hk => ?_)
      exact ⟨by rw [Nat.add_comm m vs.sum]; rfl, hk.toBelow⟩
  · have hm0 : m = 0 := by rw [hm]; unfold frN; rw [if_neg ha]
    (repeat' (first | (refine gG ?_; try intro _) | ((first | refine g_split rfl rfl tE (fun _ => ?_) (fun _ => ?_) | refine gk_cond rfl rfl tE (fun _ => ?_) (fun _ => ?_)) <;> (try first | (exfalso; omega; done) | (rename_i hx; exact absurd rfl hx) | (rename_i hx; cases hx; done)))))
    refine gk_say (v := .int .i64 0) 3 (.int .i64 ((m + (vs.take 0).sum : Nat) : Int)) rfl (by rw [hm0]; rfl) ?_
    refine gk_loop_sel (fun (i : Nat) => i ≤ Cs.length) (fun (i : Nat) => [(3, .int .i64 ((m + (vs.take i).sum : Nat) : Int)), (14, .slice CA Cs.length Cc), (15, .int .i64 (Cs.length : Nat)), (16, .int .i64 i)]) (fun (i : Nat) => []) (fun (i : Nat) => [F, sl CA 1 PE Cs]) (fun (i : Nat) => Cs.length - i) 0 rfl (Nat.zero_le _) (by repeat (first | exact trivial | refine ⟨rfl, ?_⟩)) sA sS ?_
    rintro i hI
    replace hI : i ≤ Cs.length := hI
    change GK _ _ [(3, .int .i64 ((m + (vs.take i).sum : Nat) : Int)), (14, .slice CA Cs.length Cc), (15, .int .i64 (Cs.length : Nat)), (16, .int .i64 i)] [] [F, sl CA 1 PE Cs]
    by_cases hlt : i < Cs.length
    · obtain ⟨v, hv⟩ : ∃ v, vs[i]? = some v := ⟨vs[i], List.getElem?_eq_getElem (by omega)⟩
      have hs := take_sum hv
      refine gk_elem (A := CA) (enc := PE) (L := Cs) i mE hlt (by decide) (fun b off y eA hy => ?_)
      subst eA
      (repeat' (first | (refine gG ?_; try intro _) | ((first | refine g_split rfl rfl tE (fun _ => ?_) (fun _ => ?_) | refine gk_cond rfl rfl tE (fun _ => ?_) (fun _ => ?_)) <;> (try first | (exfalso; omega; done) | (rename_i hx; exact absurd rfl hx) | (rename_i hx; cases hx; done)))))
      refine g_mv rfl ?_; refine mv_call_bel (fun w hk => hkid i y v hy hv w (hk.rR (φ := F) mE)) rfl rfl rfl rfl rfl (by kernel_rfl) ?_
      (repeat' (first | (refine gG ?_; try intro _) | ((first | refine g_split rfl rfl tE (fun _ => ?_) (fun _ => ?_) | refine gk_cond rfl rfl tE (fun _ => ?_) (fun _ => ?_)) <;> (try first | (exfalso; omega; done) | (rename_i hx; exact absurd rfl hx) | (rename_i hx; cases hx; done)))))
      refine gk_say 3 (.int .i64 ((m + (vs.take (i + 1)).sum : Nat) : Int)) rfl (by congr 1; omega) ?_
      refine gk_again_sel rfl (i + 1) (by omega) (by omega) (by repeat (first | exact trivial | refine ⟨rfl, ?_⟩)) sA sS
    · have hi : i = vs.length := by omega
      subst hi
      rw [List.take_length]
      (repeat' (first | (refine gG ?_; try intro _) | ((first | refine g_split rfl rfl tE (fun _ => ?_) (fun _ => ?_) | refine gk_cond rfl rfl tE (fun _ => ?_) (fun _ => ?_)) <;> (try first | (exfalso; omega; done) | (rename_i hx; exact absurd rfl hx) | (rename_i hx; cases hx; done)))))
      refine gk_ret hT rfl rfl (.tmp rfl .nil) (fun w' hk => ?_)
      exact ⟨by rw [Nat.add_comm m vs.sum]; rfl, hk.toBelow⟩
theorem kids_at {h : Nat} {t : Tr.T (h + 1)} (ok : Ok (h + 1) t) {i g : Nat} (hg : (nd (h + 1) t).Cs[i]? = some g) : ∃ k, t.2[i]? = some k ∧ (nd h k).g = g := by
  have e : (nd (h + 1) t).Cs = (t.2.map (nd h)).map NodeD.g := ok.1.Cs
  rw [e, List.map_map, List.getElem?_map] at hg
  obtain ⟨k, hk, e2⟩ := Option.map_eq_some_iff.1 hg
  exact ⟨k, hk, e2⟩
theorem sum_mem {vs : List Nat} {v : Nat} (h : v ∈ vs) : v ≤ vs.sum := by
  obtain ⟨i, hi⟩ := List.getElem?_of_mem h
  have := take_sum hi
  omega
theorem freshT_any : ∀ (h : Nat) (t : Tr.T h) (w : World), Ok h t → fr h t ≤ 10000 → Rd1 w (treeF h t) → Calls Tryz.prog 41 [.pointer (some ⟨(nd h t).g, 0, none⟩)].toArray w fun e w' => e = .returned (.int .i64 ((fr h t : Nat) : Int)) ∧ Below w.heap.size w w'
  | 0, t, w, ok, h9, hF => by
    have hC : (nd 0 t).Cs = [] := ok.1.Cs
    have := fresh_node (treeF 0 t) (nd 0 t) [] w (ok_nd ok) (by rw [hC]) (Nat.zero_le _) (fun i g v h1 h2 => (by cases h2)) hF (der_nd t)
    rwa [show ([] : List Nat).sum + frN (nd 0 t) = fr 0 t from Nat.zero_add _] at this
  | h + 1, t, w, ok, h9, hF => by
    have hC : (nd (h + 1) t).Cs = (t.2.map (nd h)).map NodeD.g := ok.1.Cs
    have h9' : (t.2.map (fr h)).sum + frN (nd (h + 1) t) ≤ 10000 := h9
    exact fresh_node (treeF (h + 1) t) (nd (h + 1) t) (t.2.map (fr h)) w (ok_nd ok) (by rw [hC, List.length_map, List.length_map, List.length_map]) (by omega) (fun i g v h1 h2 w hw => by
      obtain ⟨k, hk, e⟩ := kids_at ok h1
      rw [List.getElem?_map, hk] at h2
      obtain rfl := Option.some.inj h2
      have hm := List.mem_of_getElem? hk
      have := sum_mem (List.mem_map.2 ⟨k, hm, rfl⟩ : fr h k ∈ t.2.map (fr h))
      rw [← e]
      exact freshT_any h k w (ok.2.2 k hm) (by omega) ((der_kid hm).rd fun ψ hψ => by obtain rfl := List.mem_singleton.1 hψ; exact hw)) hF (der_nd t)
/-! count -/
theorem count_node (F : Fact) (d : NodeD) (vs : List Nat) (w : World) (hok : d.Ok) (hl : vs.length = d.Cs.length) (hb : vs.sum ≤ 10000) (hkid : ∀ (i g v : Nat), d.Cs[i]? = some g → vs[i]? = some v → ∀ w, Rd1 w F → Calls Tryz.prog 23 [.pointer (some ⟨g, 0, none⟩)].toArray w fun e w' => e = .returned (.int .i64 (v : Int)) ∧ Below w.heap.size w w') (hF : Rd1 w F) (hD : Der [F] (nodeF d)) :
    Calls Tryz.prog 23 [.pointer (some ⟨d.g, 0, none⟩)].toArray w fun e w' => e = .returned (.int .i64 ((1 + vs.sum : Nat) : Int)) ∧ Below w.heap.size w w' := by
  have hN : Rd1 w (nodeF d) := hD.rd fun ψ hψ => by obtain rfl := List.mem_singleton.1 hψ; exact hF
  obtain ⟨g, lf, ⟨KA, Kn, Kc⟩, Ks, ⟨VA, Vn, Vc⟩, Vs, ⟨CA, Cn, Cc⟩, Cs, a⟩ := d
  have hCn : Cn = Cs.length := hok.C.n
  have hC9 := hok.C.c
  have hC8 := hok.C.mx
  unfold maxLen at hC8
  dsimp only at hl hkid hC9 hC8
  subst hCn
  refine g_enter0 T [] [] [F, blk g [.bool lf, .slice KA Kn Kc, .slice VA Vn Vc, .slice CA Cs.length Cc, .int .u32 a] 109, sl CA 1 PE Cs] Tryz.func23 rfl Tryz.ntmps23 rfl (Rds.cons hF (.cons (Rd1.open (F := id) hN (x := blk g [.bool lf, .slice KA Kn Kc, .slice VA Vn Vc, .slice CA Cs.length Cc, .int .u32 a] 109) (.head _)) (.cons (Rd1.open (F := id) hN (x := sl CA 1 PE Cs) (.tail _ (.tail _ (.tail _ (.head _))))) .nil))).kn ?_
  refine gk_rowR (g := g) mE ?_
  (repeat' (first | (refine gG ?_; try intro _) | ((first | refine g_split rfl rfl tE (fun _ => ?_) (fun _ => ?_) | refine gk_cond rfl rfl tE (fun _ => ?_) (fun _ => ?_)) <;> (try first | (exfalso; omega; done) | (rename_i hx; exact absurd rfl hx) | (rename_i hx; cases hx; done)))))
  refine gk_say (v := .int .i64 1) 3 (.int .i64 ((1 + (vs.take 0).sum : Nat) : Int)) rfl rfl ?_
  refine gk_loop_sel (fun (i : Nat) => i ≤ Cs.length) (fun (i : Nat) => [(0, .pointer (some ⟨g, 0, none⟩)), (3, .int .i64 ((1 + (vs.take i).sum : Nat) : Int)), (4, .int .i64 i)]) (fun (i : Nat) => []) (fun (i : Nat) => [F, blk g [.bool lf, .slice KA Kn Kc, .slice VA Vn Vc, .slice CA Cs.length Cc, .int .u32 a] 109, sl CA 1 PE Cs]) (fun (i : Nat) => Cs.length - i) 0 rfl (Nat.zero_le _) (by repeat (first | exact trivial | refine ⟨rfl, ?_⟩)) sA sS ?_
  rintro i hI
  replace hI : i ≤ Cs.length := hI
  change GK _ _ [(0, .pointer (some ⟨g, 0, none⟩)), (3, .int .i64 ((1 + (vs.take i).sum : Nat) : Int)), (4, .int .i64 i)] [] [F, blk g [.bool lf, .slice KA Kn Kc, .slice VA Vn Vc, .slice CA Cs.length Cc, .int .u32 a] 109, sl CA 1 PE Cs]
  refine gk_rowR (g := g) mE ?_
  by_cases hlt : i < Cs.length
  · obtain ⟨v, hv⟩ : ∃ v, vs[i]? = some v := ⟨vs[i], List.getElem?_eq_getElem (by omega)⟩
    have hs := take_sum hv
    refine gk_elem (A := CA) (enc := PE) (L := Cs) i mE hlt (by decide) (fun b off y eA hy => ?_)
    subst eA
    (repeat' (first | (refine gG ?_; try intro _) | ((first | refine g_split rfl rfl tE (fun _ => ?_) (fun _ => ?_) | refine gk_cond rfl rfl tE (fun _ => ?_) (fun _ => ?_)) <;> (try first | (exfalso; omega; done) | (rename_i hx; exact absurd rfl hx) | (rename_i hx; cases hx; done)))))
    refine g_mv rfl ?_; refine mv_call_bel (fun w hk => hkid i y v hy hv w (hk.rR (φ := F) mE)) rfl rfl rfl rfl rfl (by kernel_rfl) ?_
    (repeat' (first | (refine gG ?_; try intro _) | ((first | refine g_split rfl rfl tE (fun _ => ?_) (fun _ => ?_) | refine gk_cond rfl rfl tE (fun _ => ?_) (fun _ => ?_)) <;> (try first | (exfalso; omega; done) | (rename_i hx; exact absurd rfl hx) | (rename_i hx; cases hx; done)))))
    refine gk_say 3 (.int .i64 ((1 + (vs.take (i + 1)).sum : Nat) : Int)) rfl (by congr 1; omega) ?_
    refine gk_again_sel rfl (i + 1) (by omega) (by omega) (by repeat (first | exact trivial | refine ⟨rfl, ?_⟩)) sA sS
  · have hi : i = vs.length := by omega
    subst hi
    rw [List.take_length]
    (repeat' (first | (refine gG ?_; try intro _) | ((first | refine g_split rfl rfl tE (fun _ => ?_) (fun _ => ?_) | refine gk_cond rfl rfl tE (fun _ => ?_) (fun _ => ?_)) <;> (try first | (exfalso; omega; done) | (rename_i hx; exact absurd rfl hx) | (rename_i hx; cases hx; done)))))
    refine gk_ret hT rfl rfl (.tmp rfl .nil) (fun w' hk => ?_)
    exact ⟨rfl, hk.toBelow⟩
theorem count_any : ∀ (h : Nat) (t : Tr.T h) (w : World), Ok h t → (nds h t).length ≤ 10000 → Rd1 w (treeF h t) → Calls Tryz.prog 23 [.pointer (some ⟨(nd h t).g, 0, none⟩)].toArray w fun e w' => e = .returned (.int .i64 (((nds h t).length : Nat) : Int)) ∧ Below w.heap.size w w'
  | 0, t, w, ok, h9, hF => by
    have hC : (nd 0 t).Cs = [] := ok.1.Cs
    exact count_node (treeF 0 t) (nd 0 t) [] w (ok_nd ok) (by rw [hC]) (Nat.zero_le _) (fun i g v h1 h2 => (by cases h2)) hF (der_nd t)
  | h + 1, t, w, ok, h9, hF => by
    have hC : (nd (h + 1) t).Cs = (t.2.map (nd h)).map NodeD.g := ok.1.Cs
    have e : (nds (h + 1) t).length = 1 + (t.2.map fun k => (nds h k).length).sum := by
      show ((t.2.map (nds h)).flatten).length + 1 = _
      rw [List.length_flatten, List.map_map, Nat.add_comm]
      rfl
    rw [e] at h9 ⊢
    exact count_node (treeF (h + 1) t) (nd (h + 1) t) (t.2.map fun k => (nds h k).length) w (ok_nd ok) (by rw [hC, List.length_map, List.length_map, List.length_map]) (by omega) (fun i g v h1 h2 w hw => by
      obtain ⟨k, hk, e⟩ := kids_at ok h1
      rw [List.getElem?_map, hk] at h2
      obtain rfl := Option.some.inj h2
      have hm := List.mem_of_getElem? hk
      have := sum_mem (List.mem_map.2 ⟨k, hm, rfl⟩ : (nds h k).length ∈ t.2.map fun k => (nds h k).length)
      rw [← e]
      exact count_any h k w (ok.2.2 k hm) (by omega) ((der_kid hm).rd fun ψ hψ => by obtain rfl := List.mem_singleton.1 hψ; exact hw)) hF (der_nd t)
theorem count_nil (w : World) : Calls Tryz.prog 23 [.pointer none].toArray w fun e w' => e = .returned (.int .i64 0) ∧ Below w.heap.size w w' := by
  refine g_enter0 T [] [] [] Tryz.func23 rfl Tryz.ntmps23 rfl (Kn.start _) ?_
  (repeat' (first | (refine gG ?_; try intro _) | ((first | refine g_split rfl rfl tE (fun _ => ?_) (fun _ => ?_) | refine gk_cond rfl rfl tE (fun _ => ?_) (fun _ => ?_)) <;> (try first | (exfalso; omega; done) | (rename_i hx; exact absurd rfl hx) | (rename_i hx; cases hx; done)))))
  refine gk_ret hT rfl rfl (.tmp rfl .nil) (fun w' hk => ?_)
  exact ⟨rfl, hk.toBelow⟩
end Go.Proofs.YtaghmffgoomebaaGreat.St
namespace Go.Proofs.YtaghmffgoomebaaGreat.Gx
open Go.RowKit Mem
section
variable {X : Cx} {f : Fr} {O O1 R R' : List Fact} {φ ψ : Fact} {E : List Nat} {w0 w : World} {ks k : List KI} {ops lo : List Oper}
theorem Kn.turn (h : Kn E w0 w (φ :: O) R) (hp : φ.p w → ψ.p w) (hS : ∀ b, ψ.S b → φ.S b) : Kn E w0 w (ψ :: O) R :=
  { os := h.os
    tape := h.tape
    output := h.output
    size := h.size
    block := h.block
    ownS := fun χ hχ b hb => by
      rcases List.mem_cons.1 hχ with rfl | h1
      · exact h.ownS _ (.head _) b (hS b hb)
      · exact h.ownS _ (.tail _ h1) b hb
    ltO := fun χ hχ b hb => by
      rcases List.mem_cons.1 hχ with rfl | h1
      · exact h.ltO _ (.head _) b (hS b hb)
      · exact h.ltO _ (.tail _ h1) b hb
    ltR := h.ltR
    pO := fun χ hχ => by
      rcases List.mem_cons.1 hχ with rfl | h1
      · exact hp (h.pO _ (.head _))
      · exact h.pO _ (.tail _ h1)
    pR := h.pR
    disO := List.pairwise_cons.2 ⟨fun χ hχ b hb => (List.pairwise_cons.1 h.disO).1 χ hχ b (hS b hb), (List.pairwise_cons.1 h.disO).2⟩
    disR := fun χ hχ ξ hξ b h1 h2 => by
      rcases List.mem_cons.1 hχ with rfl | h3
      · exact h.disR _ (.head _) ξ hξ b (hS b h1) h2
      · exact h.disR _ (.tail _ h3) ξ hξ b h1 h2 }
/-- A fact of one's own, said otherwise. -/
theorem gk_turn (ψ : Fact) (hs : Sel φ O O1) (hp : ∀ w : World, φ.p w → ψ.p w) (hS : ∀ b, ψ.S b → φ.S b) (hg : GK X ks f (ψ :: O1) R) : GK X ks f O R := .mk fun a w hr hk => hg.out a w hr (Kn.turn (hk.perm hs.perm) (hp w) hS)
theorem g_turn (ψ : Fact) (hs : Sel φ O O1) (hp : ∀ w : World, φ.p w → ψ.p w) (hS : ∀ b, ψ.S b → φ.S b) (hg : G X ops lo k f (ψ :: O1) R) : G X ops lo k f O R := .mk fun a w hr hk => hg.out a w hr (Kn.turn (hk.perm hs.perm) (hp w) hS)
theorem Kn.unshare (h : Kn E w0 w O R) (hm : φ ∈ R) (hR : R' ⊆ R) (hn : ∀ b, φ.S b → w0.heap.size ≤ b ∨ b ∈ E) (hd : ∀ ψ ∈ R', ∀ b, φ.S b → ¬ ψ.S b) : Kn E w0 w (φ :: O) R' :=
  { os := h.os
    tape := h.tape
    output := h.output
    size := h.size
    block := h.block
    ownS := fun χ hχ b hb => by
      rcases List.mem_cons.1 hχ with rfl | h1
      · exact hn b hb
      · exact h.ownS _ h1 b hb
    ltO := fun χ hχ b hb => by
      rcases List.mem_cons.1 hχ with rfl | h1
      · exact h.ltR _ hm b hb
      · exact h.ltO _ h1 b hb
    ltR := fun χ hχ => h.ltR χ (hR hχ)
    pO := fun χ hχ => by
      rcases List.mem_cons.1 hχ with rfl | h1
      · exact h.pR _ hm
      · exact h.pO _ h1
    pR := fun χ hχ => h.pR χ (hR hχ)
    disO := List.pairwise_cons.2 ⟨fun χ hχ b hb h2 => h.disR χ hχ φ hm b h2 hb, h.disO⟩
    disR := fun χ hχ ξ hξ b h1 h2 => by
      rcases List.mem_cons.1 hχ with rfl | h3
      · exact hd ξ hξ b h1 h2
      · exact h.disR _ h3 ξ (hR hξ) b h1 h2 }
theorem g_unshare (φ : Fact) (R' : List Fact) (hm : φ ∈ R) (hR : R' ⊆ R) (hn : ∀ b, φ.S b → X.w0.heap.size ≤ b ∨ b ∈ X.E) (hd : ∀ w : World, (∀ χ, χ ∈ R → χ.p w) → ∀ ψ ∈ R', ∀ b, φ.S b → ¬ ψ.S b) (hg : G X ops lo k f (φ :: O) R') : G X ops lo k f O R := .mk fun a w hr hk => hg.out a w hr (hk.unshare hm hR hn (hd w hk.pR))
end
end Go.Proofs.YtaghmffgoomebaaGreat.Gx
namespace Go.Proofs.YtaghmffgoomebaaGreat.St
open Go.RowKit Mem Gx Bytes Dk Al Rf Hp Nd Ch
open Tr hiding T row
set_option linter.unusedVariables false
set_option linter.unusedSimpArgs false
set_option maxRecDepth 100000
/-- The headers of some trees; of a node and the trees below it. -/
def hdL {h : Nat} (ks : List (Tr.T h)) : Fact := allF ((ks.map (nds h)).flatten) hdB
def hdX {h : Nat} (d : NodeD) (ks : List (Tr.T h)) : Fact := allF (d :: (ks.map (nds h)).flatten) hdB
theorem hd_S {l : List NodeD} {b : Nat} : (allF l hdB).S b ↔ b ∈ l.map NodeD.g := by
  constructor
  · rintro ⟨d, hd, e⟩
    have e' : b = d.g := e
    exact List.mem_map.2 ⟨d, hd, e'.symm⟩
  · intro h
    obtain ⟨d, hd, e⟩ := List.mem_map.1 h
    exact ⟨d, hd, e.symm⟩
theorem hd_dis {l m : List NodeD} (hn : (l.map NodeD.g ++ m.map NodeD.g).Nodup) : ∀ b, (allF l hdB).S b → ¬ (allF m hdB).S b := fun b h1 h2 =>
  (List.nodup_append.1 hn).2.2 b (hd_S.1 h1) b (hd_S.1 h2) rfl
/-- One fact, parted. -/
theorem hd_part {l m : List NodeD} (hn : (l.map NodeD.g ++ m.map NodeD.g).Nodup) : (∀ w : World, (allF (l ++ m) hdB).p w → (packF [allF l hdB, allF m hdB]).p w) ∧ ∀ b, (packF [allF l hdB, allF m hdB]).S b → (allF (l ++ m) hdB).S b := by
  refine ⟨fun w hw => ⟨?_, fun φ hφ => ?_⟩, fun b ⟨φ, hφ, hb⟩ => ?_⟩
  · exact List.pairwise_cons.2 ⟨fun φ hφ => by obtain rfl := List.mem_singleton.1 hφ; exact hd_dis hn, List.pairwise_singleton _ _⟩
  · rcases List.mem_cons.1 hφ with rfl | hφ
    · exact fun d hd => hw d (List.mem_append_left _ hd)
    · obtain rfl := List.mem_singleton.1 hφ
      exact fun d hd => hw d (List.mem_append_right _ hd)
  · rcases List.mem_cons.1 hφ with rfl | hφ
    · obtain ⟨d, hd, e⟩ := hb
      exact ⟨d, List.mem_append_left _ hd, e⟩
    · obtain rfl := List.mem_singleton.1 hφ
      obtain ⟨d, hd, e⟩ := hb
      exact ⟨d, List.mem_append_right _ hd, e⟩
/-- Two facts, joined. -/
theorem hd_join {l m : List NodeD} : (∀ w : World, (packF [allF l hdB, allF m hdB]).p w → (allF (l ++ m) hdB).p w) ∧ ∀ b, (allF (l ++ m) hdB).S b → (packF [allF l hdB, allF m hdB]).S b := by
  refine ⟨fun w hw d hd => ?_, fun b ⟨d, hd, e⟩ => ?_⟩
  · rcases List.mem_append.1 hd with hd | hd
    · exact hw.2 (allF l hdB) (.head _) d hd
    · exact hw.2 (allF m hdB) (.tail _ (.head _)) d hd
  · rcases List.mem_append.1 hd with hd | hd
    · exact ⟨allF l hdB, .head _, d, hd, e⟩
    · exact ⟨allF m hdB, .tail _ (.head _), d, hd, e⟩
theorem hdL_cons {h : Nat} (k : Tr.T h) (r : List (Tr.T h)) : hdL (k :: r) = allF (nds h k ++ (r.map (nds h)).flatten) hdB := rfl
theorem hdL_snoc {h : Nat} (k : Tr.T h) (r : List (Tr.T h)) : hdL (r ++ [k]) = allF ((r.map (nds h)).flatten ++ nds h k) hdB := by
  unfold hdL
  rw [List.map_append, List.flatten_append]
  show allF (_ ++ (nds h k ++ [])) hdB = _
  rw [List.append_nil]
/-- A node's own header, nothing yet, and all below. -/
theorem hdX_part {h : Nat} {d : NodeD} {ks : List (Tr.T h)} (hn : (d.g :: ((ks.map (nds h)).flatten).map NodeD.g).Nodup) : (∀ w : World, (hdX d ks).p w → (packF [hdB d, hdL ([] : List (Tr.T h)), hdL ks]).p w) ∧ ∀ b, (packF [hdB d, hdL ([] : List (Tr.T h)), hdL ks]).S b → (hdX d ks).S b := by
  refine ⟨fun w hw => ⟨?_, fun φ hφ => ?_⟩, fun b ⟨φ, hφ, hb⟩ => ?_⟩
  · refine List.pairwise_cons.2 ⟨fun φ hφ b hb hb2 => ?_, List.pairwise_cons.2 ⟨fun φ hφ b hb => ?_, List.pairwise_singleton _ _⟩⟩
    · have hb' : b = d.g := hb
      rcases List.mem_cons.1 hφ with rfl | hφ
      · obtain ⟨x, hx, _⟩ := hb2
        cases hx
      · obtain rfl := List.mem_singleton.1 hφ
        have := hd_S.1 hb2
        rw [hb'] at this
        exact (List.nodup_cons.1 hn).1 this
    · obtain ⟨x, hx, _⟩ := hb
      cases hx
  · rcases List.mem_cons.1 hφ with rfl | hφ
    · exact hw d (.head _)
    rcases List.mem_cons.1 hφ with rfl | hφ
    · exact fun x hx => (by cases hx)
    · obtain rfl := List.mem_singleton.1 hφ
      exact fun x hx => hw x (.tail _ hx)
  · rcases List.mem_cons.1 hφ with rfl | hφ
    · exact ⟨d, .head _, hb⟩
    rcases List.mem_cons.1 hφ with rfl | hφ
    · obtain ⟨x, hx, _⟩ := hb
      cases hx
    · obtain rfl := List.mem_singleton.1 hφ
      obtain ⟨x, hx, e⟩ := hb
      exact ⟨x, .tail _ hx, e⟩
theorem hdX_join {h : Nat} {d : NodeD} {ks : List (Tr.T h)} : (∀ w : World, (packF [hdB d, hdL ks]).p w → (hdX d ks).p w) ∧ ∀ b, (hdX d ks).S b → (packF [hdB d, hdL ks]).S b := by
  refine ⟨fun w hw x hx => ?_, fun b ⟨x, hx, e⟩ => ?_⟩
  · rcases List.mem_cons.1 hx with rfl | hx
    · exact hw.2 (hdB x) (.head _)
    · exact hw.2 (hdL ks) (.tail _ (.head _)) x hx
  · rcases List.mem_cons.1 hx with rfl | hx
    · exact ⟨hdB x, .head _, e⟩
    · exact ⟨hdL ks, .tail _ (.head _), x, hx, e⟩
/-! ### a saver's state -/
/-- An Alloc of so many blocks, of which the first ones are taken. -/
def alK (n k : Nat) : AlS := ⟨(iota n).drop k, iota k, [], []⟩
theorem iota_get {n k : Nat} (h : k < n) : (iota n)[k]? = some ((k : Int) + 1) := by
  unfold iota
  rw [List.getElem?_map, List.getElem?_range h]
  rfl
theorem take_alK {n k : Nat} (h : k < n) : takeA (alK n k) = (alK n (k + 1), ((k : Int) + 1), 0) := by
  have e : (iota n).drop k = ((k : Int) + 1) :: (iota n).drop (k + 1) := by
    have hk : k < (iota n).length := by rw [iota_len]; exact h
    rw [List.drop_eq_getElem_cons hk]
    have := iota_get h
    rw [List.getElem?_eq_getElem hk] at this
    rw [Option.some.inj this]
  unfold takeA alK
  rw [e]
  show ((⟨(iota n).drop (k + 1), iota k ++ [(k : Int) + 1], [], []⟩ : AlS), _) = _
  rw [iota_succ]
theorem alK_zero (n : Nat) : alK n 0 = ⟨iota n, [], [], []⟩ := rfl
theorem alK_free (n k : Nat) : (alK n k).S.length = n - k := by
  show ((iota n).drop k).length = _
  rw [List.length_drop, iota_len]
theorem alK_held (n k : Nat) : (alK n k).l.length = k := iota_len k
/-- Where a saver's things lie. -/
structure SvQ where
  A : Option Addr
  c : Nat
  D : AlD
  lv : Value
  W : List WrD
def ws (W : List (Nat × List Int)) : List Wr := W.map fun p => (p.1 + 4 + 1, p.2)
structure SvOk (n : Nat) (S : List SecD) (s : SvS) (q : SvQ) : Prop where
  a : AlI n q.D (alK n s.k)
  d : DkOk S q.W
  w : q.W.map WrD.c = ws s.W
abbrev svF (sp g pa n : Nat) (sv : Value) (S : List SecD) (s : SvS) (q : SvQ) : List Fact := [blk sp [.pointer (some ⟨g, 0, none⟩), .int .i64 ((4 : Nat) : Int), .pointer (some ⟨pa, 0, none⟩), .slice q.A s.l.length q.c] 103, own 0 26 1 (.slice q.A s.l.length q.c) (IE .u32) s.l, alF pa n q.D (alK n s.k), dkF g ⟨sv, q.lv, S, q.W⟩]
end Go.Proofs.YtaghmffgoomebaaGreat.St
