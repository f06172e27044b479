/- A slice of points that came in, read as a list of points. -/
import Derived.Test.YtoibocaaeimplaaDoorPoint
import Derived.Test.YtoibocaaeimplaaDoorOpen
namespace Go.Proofs.YtoibocaaeimplaaDoor
open Go.RowKit Go.WideShapes Go.ChangeShapes Go.ChangeAt
set_option linter.unusedSimpArgs false
set_option linter.unusedVariables false

theorem pts_arg {H : Type} {enc : TypeId × Value → H} {w : World} {base : Nat} {spare : Nat → Bool} {held : Bool} {fuel : Nat} {cs : List Value} {x : DataW H × List MemPlace}
    (h : DataW.trod enc Tryd.prog w base spare held fuel 22 cs = some x) : ∃ (v : Value) (g : List Pt), cs = [v] ∧ Sl w 7 v (g.map Pt.cells) := by
  obtain ⟨v, css, rfl, hs, hr⟩ := slice_reads (size := 7) (R := fun r => ∃ p : Pt, r = p.cells) Tryd.underlying22 (by kernel_rfl) (by omega) (fun n r y hy => by
    obtain ⟨hl, hf⟩ := struct_cells Tryd.underlying49 (by kernel_rfl) (by kernel_rfl) hy
    obtain ⟨v0, n0, y0, e0, h0⟩ := hf 0 _ rfl
    obtain ⟨v1, n1, y1, e1, h1⟩ := hf 1 _ rfl
    obtain ⟨v2, n2, y2, e2, h2⟩ := hf 2 _ rfl
    obtain ⟨v3, n3, y3, e3, h3⟩ := hf 3 _ rfl
    obtain ⟨v4, n4, y4, e4, h4⟩ := hf 4 _ rfl
    obtain ⟨v5, n5, y5, e5, h5⟩ := hf 5 _ rfl
    obtain ⟨v6, n6, y6, e6, h6⟩ := hf 6 _ rfl
    obtain ⟨x0, rfl, _⟩ := int_cell Tryd.underlying3 h0
    obtain ⟨x1, rfl, _⟩ := int_cell Tryd.underlying3 h1
    obtain ⟨x2, rfl, _⟩ := int_cell Tryd.underlying3 h2
    obtain ⟨x3, rfl, _⟩ := int_cell Tryd.underlying3 h3
    obtain ⟨x4, rfl, _⟩ := int_cell Tryd.underlying3 h4
    obtain ⟨x5, rfl, _⟩ := int_cell Tryd.underlying3 h5
    obtain ⟨x6, rfl, _⟩ := int_cell Tryd.underlying3 h6
    refine ⟨⟨x0, x1, x2, x3, x4, x5, x6⟩, ?_⟩
    match r, hl with
    | [a0, a1, a2, a3, a4, a5, a6], _ =>
      simp at e0 e1 e2 e3 e4 e5 e6
      subst e0 e1 e2 e3 e4 e5 e6
      rfl) h
  obtain ⟨g, rfl⟩ := all_map css (fun r hr' => (hr r hr').1)
  exact ⟨v, g, rfl, hs⟩
end Go.Proofs.YtoibocaaeimplaaDoor
