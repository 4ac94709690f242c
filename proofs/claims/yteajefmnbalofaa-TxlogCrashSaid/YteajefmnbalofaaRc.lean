/- record: records as data; page.Put, page.Of and the reference's as calls that hand back new slices; Same. -/
import Derived.Test.YteajefmnbalofaaOpN
import Derived.Test.YteajefmnbalofaaPage8
namespace Go.Proofs.Yteajefmnbalofaa.Rec
open Go.RowKit Mem Gx Sls Bytes Rd OpA
set_option linter.unusedVariables false
set_option linter.unusedSimpArgs false
set_option maxRecDepth 100000
set_option maxHeartbeats 4000000
theorem ret_of_own {α : Type} [Inhabited α] {F : Value → Value} {sz : Nat} {enc : α → Nat → Value} {L : List α} {P : Program} {fid : FuncId} {args : Array Value} {w : World} {e' : TypeId} (hsz : 0 < sz) (h : Calls P fid args w fun e w' => ∃ v, e = .returned (F v) ∧ OwnL w' w.heap.size e' sz v enc L ∧ Below w.heap.size w w') :
    Calls P fid args w (Ret (fun s : SlV => s.Ok L.length) (fun s => F s.v) (fun s => [sl s.A sz enc L]) w) :=
  h.mono fun e w' ⟨v, h1, h2, h3⟩ => by
    obtain ⟨A, c, rfl, k1, k2, k3, k4, k5⟩ := OwnL.sl h2
    refine ⟨⟨A, _, c⟩, ⟨rfl, k2, k3, k4⟩, h1, ⟨h3, fun φ hφ => ?_, List.pairwise_singleton _ _⟩⟩
    obtain rfl := List.mem_singleton.1 hφ
    refine ⟨k1, fun b hb => ?_⟩
    obtain ⟨_, a, ha, hab⟩ := hb
    rw [← hab]
    exact k5 a ha
theorem ret_of_of {P : Program} {fid : FuncId} {args : Array Value} {w : World} {r : List Int × Int} (h : Calls P fid args w fun e w' => Page.OfRes w w' e r) :
    Calls P fid args w (Ret (fun s : SlV => s.Ok r.1.length) (fun s => .tuple #[s.v, .int .i64 r.2]) (fun s => [sl s.A 1 (IE .u8) r.1]) w) :=
  h.mono fun e w' ⟨A, n, c, h1, h2, h3, h4, h5, h6, h7⟩ => by
    refine ⟨⟨A, n, c⟩, ⟨h1, h4, h7.2, h5⟩, h2, ⟨h6, fun φ hφ => ?_, List.pairwise_singleton _ _⟩⟩
    obtain rfl := List.mem_singleton.1 hφ
    refine ⟨h3, fun b hb => ?_⟩
    obtain ⟨hn, a, ha, hab⟩ := hb
    rw [← hab]
    refine ⟨h7.1 a ha, ?_⟩
    obtain ⟨b', off, e1, hc⟩ := h3 hn
    have e1 : A = some ⟨b', off, none⟩ := e1
    have ha : A = some a := ha
    rw [e1] at ha
    injection ha with ha
    rw [← ha]
    exact lt_of_cell (hc 0 hn 0 (by decide))
abbrev RetB (F : Value → Value) (L : List Int) (w : World) : Ending → World → Prop := Ret (fun s : SlV => s.Ok L.length) (fun s => F s.v) (fun s => [sl s.A 1 (IE .u8) L]) w
theorem pput_any (k : Int) (s : SlV) (L : List Int) (w : World) (h1 : 1 ≤ k) (h2 : k ≤ 6) (hs : s.Ok L.length) (hL : L.length ≤ 120) (h : Sl w s.A 1 (IE .u8) L) (hB : IsB L) :
    Calls Try.prog 50 [.int .i64 k, s.v].toArray w (RetB (fun v => .tuple #[v, .int .i64 0]) (Page.page k L) w) :=
  ret_of_own (by decide) (Page.put_ok k s.A s.n s.c L w h1 h2 hs.n (by rw [hs.n]; exact hL) h hB)
theorem pof_any (k : Int) (s : SlV) (L : List Int) (w : World) (hs : s.Ok L.length) (h : Sl w s.A 1 (IE .u8) L) (hB : IsB L) :
    Calls Try.prog 56 [.int .i64 k, s.v].toArray w (RetB (fun v => .tuple #[v, .int .i64 (Page.ofR k (Page.getS L)).2]) (Page.ofR k (Page.getS L)).1 w) :=
  ret_of_of (Page.of_any' k s.A s.n s.c L w hs.n hs.c h hB)
/-- A record. -/
structure RecD where
  g : Int
  l : Int
  t : Int
  o : OpD
def RecD.val (r : RecD) : Value := .agg [.int .u64 r.g, .int .u64 r.l, .int .u64 r.t, .int .i64 r.o.k, .int .i64 r.o.v, .int .i64 r.o.i, .int .i64 r.o.b, .int .i64 r.o.c, .int .u64 r.o.p, r.o.a.v, r.o.m.v].toArray
structure RecD.Ok (r : RecD) : Prop where
  o : r.o.Ok
structure RecD.In (r : RecD) (w : World) : Prop where
  o : r.o.In w
def RecD.fs (r : RecD) : List Fact := [sl r.o.a.A 1 (IE .u8) r.o.D, sl r.o.m.A 1 (IE .i64) r.o.M]
def sameR (a b : RecD) : Prop := a.g = b.g ∧ a.l = b.l ∧ a.t = b.t ∧ sameP a.o b.o
def recZ : RecD := ⟨0, 0, 0, kindO 0⟩
theorem sameR_trans {a b c : RecD} (h : sameR a b) (h' : sameR b c) : sameR a c := ⟨h.1.trans h'.1, h.2.1.trans h'.2.1, h.2.2.1.trans h'.2.2.1, same_trans h.2.2.2 h'.2.2.2⟩
theorem sameP_symm {a b : OpD} (h : sameP a b) : sameP b a := by
  obtain ⟨a1, a2, a3, a4, a5, a6, a7, a8⟩ := h
  exact ⟨a1.symm, a2.symm, a3.symm, a4.symm, a5.symm, a6.symm, a7.symm, a8.symm⟩
theorem sameR_symm {a b : RecD} (h : sameR a b) : sameR b a := ⟨h.1.symm, h.2.1.symm, h.2.2.1.symm, sameP_symm h.2.2.2⟩
theorem rrcsame_any (a b : RecD) (w : World) (ha : a.Ok) (hai : a.In w) (hb : b.Ok) (hbi : b.In w) (h9 : a.o.D.length ≤ 100000000 ∧ a.o.M.length ≤ 100000000) : Calls Try.prog 17 [a.val, b.val].toArray w fun e w' => e = .returned (.bool (tB (sameR a b))) ∧ Below w.heap.size w w' := by
  refine g_enter0 T [] [] [sl a.o.m.A 1 (IE .i64) a.o.M, sl a.o.a.A 1 (IE .u8) a.o.D, sl b.o.m.A 1 (IE .i64) b.o.M, sl b.o.a.A 1 (IE .u8) b.o.D] Try.func17 rfl Try.ntmps17 rfl (((((Kn.start w).argR hbi.o.a (by decide) (fun _ h => by cases h)).argR hbi.o.m (by decide) (fun _ h => by cases h)).argR hai.o.a (by decide) (fun _ h => by cases h)).argR hai.o.m (by decide) (fun _ h => by cases h)) ?_
  (repeat' (first | (refine gG ?_; try intro _) | (refine g_mv rfl ?_; first | refine mv_call_bel (fun w hk => rsame_any a.o b.o w ha.o ⟨hk.pR (sl a.o.a.A 1 (IE .u8) a.o.D) mE, hk.pR (sl a.o.m.A 1 (IE .i64) a.o.M) mE⟩ hb.o ⟨hk.pR (sl b.o.a.A 1 (IE .u8) b.o.D) mE, hk.pR (sl b.o.m.A 1 (IE .i64) b.o.M) mE⟩ h9) rfl rfl rfl rfl rfl (by kernel_rfl) ?_) | ((first | refine g_split rfl rfl tE (fun _ => ?_) (fun _ => ?_) | refine gk_cond rfl rfl tE (fun _ => ?_) (fun _ => ?_)) <;> (try first | (exfalso; omega; done) | (rename_i hx; exact absurd rfl hx) | (rename_i hx; cases hx; done)))))
  all_goals (refine gk_ret hT rfl rfl (.tmp rfl .nil) (fun w' hk => ?_); refine ⟨ret_bool ?_, hk.toBelow⟩; simp [tB_eq, sameR, *])
end Go.Proofs.Yteajefmnbalofaa.Rec
