/- A call that came in, read as a number and a list of ints. -/
import Derived.Test.YtaieopdfkapgdaaDoorKit
namespace Go.Proofs.YtaieopdfkapgdaaDoor
open Go.RowKit Go.WideShapes Go.ChangeShapes Go.ChangeAt
set_option linter.unusedSimpArgs false
set_option linter.unusedVariables false

theorem ints_arg {H : Type} {enc : TypeId × Value → H} {w : World} {base : Nat} {spare : Nat → Bool} {held : Bool} {fuel : Nat} {cs : List Value} {x : DataW H × List MemPlace}
    (h : DataW.trod enc Tryd.prog w base spare held fuel 26 cs = some x) : ∃ (v : Value) (xs : List Int), cs = [v] ∧ Sl w 1 v (ints xs) ∧ ∀ x ∈ xs, -9223372036854775808 ≤ x ∧ x ≤ 9223372036854775807 := by
  obtain ⟨v, css, rfl, hs, hr⟩ := slice_reads (size := 1) (R := fun r => ∃ p : { n : Int // -9223372036854775808 ≤ n ∧ n ≤ 9223372036854775807 }, r = [Value.int .i64 p.1]) Tryd.underlying26 (by kernel_rfl) (by omega) (fun n r y hy => by
    obtain ⟨m, hc, _, hw⟩ := DataW.trod_int Tryd.underlying3 hy
    exact ⟨⟨m, by simpa [Lit.wf, IntKind.min, IntKind.max, IntKind.signed, IntKind.bits] using hw⟩, hc⟩) h
  obtain ⟨g, rfl⟩ := all_map css (fun r hr' => (hr r hr').1)
  refine ⟨v, g.map (·.1), rfl, by simpa [ints, List.map_map, Function.comp_def] using hs, fun x hx => ?_⟩
  obtain ⟨p, _, rfl⟩ := List.mem_map.1 hx
  exact p.2

theorem call_arg {H : Type} {enc : TypeId × Value → H} {w : World} {base : Nat} {spare : Nat → Bool} {held : Bool} {fuel : Nat} {cs : List Value} {x : DataW H × List MemPlace}
    (h : DataW.trod enc Tryd.prog w base spare held fuel 49 cs = some x) : ∃ (n : Int) (v : Value) (xs : List Int), cs = [.int .i64 n, v] ∧ Sl w 1 v (ints xs) := by
  obtain ⟨hl, hf⟩ := struct_cells Tryd.underlying49 (by kernel_rfl) (by kernel_rfl) h
  obtain ⟨v0, n0, y0, e0, h0⟩ := hf 0 _ rfl
  obtain ⟨v1, n1, y1, e1, h1⟩ := hf 1 _ rfl
  obtain ⟨x0, rfl, _⟩ := int_cell Tryd.underlying3 h0
  obtain ⟨v, xs, hv, hs, _⟩ := ints_arg h1
  obtain rfl : v1 = v := by simpa using hv
  refine ⟨x0, v1, xs, ?_, hs⟩
  match cs, hl with
  | [a0, a1], _ =>
    simp at e0 e1
    subst e0 e1
    rfl
end Go.Proofs.YtaieopdfkapgdaaDoor
