/- vols.Delete. -/
import Derived.Test.YtgpfedmfbkhhcaaCtE
namespace Go.Proofs.Ytgpfedmfbkhhcaa.Ct
open Go.RowKit Mem Gx
set_option linter.unusedVariables false
set_option linter.unusedSimpArgs false
set_option maxRecDepth 100000
set_option maxHeartbeats 1000000
/-- The catalog of nothing. -/
abbrev CatD.z : CatD := ⟨0, 0, 0, 0, ⟨none, 0, 0⟩, [], ⟨none, 0, 0⟩, [], ⟨none, 0, 0⟩, [], ⟨none, 0, 0⟩, [], ⟨none, 0, 0⟩, []⟩
theorem ok_nil : (SlV.mk none 0 0).Ok 0 := ⟨rfl, Nat.le_refl _, Nat.zero_le _, fun _ => rfl⟩
theorem z_ok : CatD.z.Ok := ⟨ok_nil, ok_nil, ok_nil, ok_nil, ok_nil, fun x hx => (by cases hx), fun x hx => (by cases hx), fun x hx => (by cases hx), fun x hx => (by cases hx), by decide, by decide, by decide⟩
section
variable {w w' : World} {O R RA : List Fact} {c : CatD} {φ : Fact}
theorem part_rs (hk : Kn [] w w' O R) (hm : catF c ∈ R) (d : Der [catF c] φ) : RS1 w w' [catF c] φ := by
  refine ⟨d.p w' fun ψ hψ => ?_, fun b hb => ?_⟩
  · obtain rfl := List.mem_singleton.1 hψ
    exact hk.pR _ hm
  · obtain ⟨ψ, h1, h2⟩ := d.S b hb
    obtain rfl := List.mem_singleton.1 h1
    exact ⟨hk.ltR _ hm b h2, .inr ⟨catF c, .head _, h2⟩⟩
theorem catF_rs (h1 : RS1 w w' RA (sl c.v.A 3 VE c.V)) (h2 : RS1 w w' RA (allF c.V VolD.f)) (h3 : RS1 w w' RA (sl c.g.A 2 GE c.G)) (h4 : RS1 w w' RA (allF c.G GrpD.f)) (h5 : RS1 w w' RA (sl c.b.A 3 BE c.B)) (h6 : RS1 w w' RA (allF c.B BokD.f)) (h7 : RS1 w w' RA (sl c.k.A 1 (IE .u64) c.K)) (h8 : RS1 w w' RA (sl c.t.A 2 ME c.T)) : RS1 w w' RA (catF c) :=
  RS1.all (l := c.fs) (F := id) fun φ hφ => by
    rcases List.mem_cons.1 hφ with rfl | hφ
    · exact h1
    rcases List.mem_cons.1 hφ with rfl | hφ
    · exact h2
    rcases List.mem_cons.1 hφ with rfl | hφ
    · exact h3
    rcases List.mem_cons.1 hφ with rfl | hφ
    · exact h4
    rcases List.mem_cons.1 hφ with rfl | hφ
    · exact h5
    rcases List.mem_cons.1 hφ with rfl | hφ
    · exact h6
    rcases List.mem_cons.1 hφ with rfl | hφ
    · exact h7
    rcases List.mem_cons.1 hφ with rfl | hφ
    · exact h8
    · cases hφ
theorem rs_none {α : Type} [Inhabited α] {sz : Nat} {enc : α → Nat → Value} : RS1 w w' RA (sl none sz enc ([] : List α)) := ⟨fun h => absurd h (Nat.lt_irrefl _), fun b hb => absurd hb.1 (Nat.lt_irrefl _)⟩
theorem rs_all {α : Type} {F : α → Fact} : RS1 w w' RA (allF ([] : List α) F) := RS1.all fun x hx => by cases hx
theorem rs_z : RS1 w w' RA (catF CatD.z) := catF_rs rs_none rs_all rs_none rs_all rs_none rs_all rs_none rs_none
end
end Go.Proofs.Ytgpfedmfbkhhcaa.Ct

