/- A policy that came in, read as a plain one. -/
import Derived.Test.YtkiacbfpnidjlaaGreatDoorKit
namespace Go.Proofs.YtkiacbfpnidjlaaGreatDoor
open Go.RowKit Go.WideShapes Go.ChangeShapes Go.ChangeAt
set_option linter.unusedSimpArgs false
set_option linter.unusedVariables false

theorem tests_arg {H : Type} {enc : TypeId × Value → H} {w : World} {base : Nat} {spare : Nat → Bool} {held : Bool} {fuel : Nat} {cs : List Value} {x : DataW H × List MemPlace}
    (h : DataW.trod enc Tryz.prog w base spare held fuel 55 cs = some x) : ∃ (v : Value) (g : List Ts), cs = [v] ∧ Sl w 4 v (tsR g) := by
  obtain ⟨v, css, rfl, hs, hr⟩ := slice_reads (size := 4) (R := fun r => ∃ p : Ts, r = p.cells) Tryz.underlying55 (by kernel_rfl) (by omega) (fun n r y hy => by
    obtain ⟨hl, hf⟩ := struct_cells Tryz.underlying90 (by kernel_rfl) (by kernel_rfl) hy
    obtain ⟨v0, n0, y0, e0, h0⟩ := hf 0 _ rfl
    obtain ⟨v1, n1, y1, e1, h1⟩ := hf 1 _ rfl
    obtain ⟨v2, n2, y2, e2, h2⟩ := hf 2 _ rfl
    obtain ⟨v3, n3, y3, e3, h3⟩ := hf 3 _ rfl
    obtain ⟨x0, rfl, _⟩ := int_cell Tryz.underlying3 h0
    obtain ⟨x1, rfl, _⟩ := int_cell Tryz.underlying3 h1
    obtain ⟨x2, rfl, _⟩ := int_cell Tryz.underlying3 h2
    obtain ⟨x3, rfl, _⟩ := int_cell Tryz.underlying3 h3
    refine ⟨⟨x0, x1, x2, x3⟩, ?_⟩
    match r, hl with
    | [a0, a1, a2, a3], _ =>
      simp at e0 e1 e2 e3
      subst e0 e1 e2 e3
      rfl) h
  obtain ⟨g, rfl⟩ := all_map css (fun r hr' => (hr r hr').1)
  exact ⟨v, g, rfl, hs⟩

theorem rules_of {w : World} (css : List (List Value)) (h : ∀ r ∈ css, ∃ q, RuleIs w q r) : ∃ rs, RulesAre w rs css := by
  classical
  refine ⟨css.map fun r => if hq : ∃ q, RuleIs w q r then hq.choose else ⟨0, 0, 0, []⟩, by simp, fun i r cs h1 h2 => ?_⟩
  rw [List.getElem?_map, h2] at h1
  have hq := h cs (List.mem_of_getElem? h2)
  simp only [Option.map_some, Option.some.injEq, dif_pos hq] at h1
  rw [← h1]
  exact hq.choose_spec

theorem rules_arg {H : Type} {enc : TypeId × Value → H} {w : World} {base : Nat} {spare : Nat → Bool} {held : Bool} {fuel : Nat} {cs : List Value} {x : DataW H × List MemPlace}
    (h : DataW.trod enc Tryz.prog w base spare held fuel 22 cs = some x) : ∃ (v : Value) (rs : List Rl) (css : List (List Value)), cs = [v] ∧ Sl w 4 v css ∧ RulesAre w rs css := by
  obtain ⟨v, css, rfl, hs, hr⟩ := slice_reads (size := 4) (R := fun r => ∃ q : Rl, RuleIs w q r) Tryz.underlying22 (by kernel_rfl) (by omega) (fun n r y hy => by
    obtain ⟨hl, hf⟩ := struct_cells Tryz.underlying57 (by kernel_rfl) (by kernel_rfl) hy
    obtain ⟨v0, n0, y0, e0, h0⟩ := hf 0 _ rfl
    obtain ⟨v1, n1, y1, e1, h1⟩ := hf 1 _ rfl
    obtain ⟨v2, n2, y2, e2, h2⟩ := hf 2 _ rfl
    obtain ⟨v3, n3, y3, e3, h3⟩ := hf 3 _ rfl
    obtain ⟨x0, rfl, _⟩ := int_cell Tryz.underlying3 h0
    obtain ⟨x1, rfl, _⟩ := int_cell Tryz.underlying3 h1
    obtain ⟨x2, rfl, _⟩ := int_cell Tryz.underlying3 h2
    obtain ⟨u, g, hu, hg⟩ := tests_arg h3
    obtain rfl : v3 = u := by simpa using hu
    refine ⟨⟨x0, x1, x2, g⟩, v3, ?_, hg⟩
    match r, hl with
    | [a0, a1, a2, a3], _ =>
      simp at e0 e1 e2 e3
      subst e0 e1 e2 e3
      rfl) h
  obtain ⟨rs, hrs⟩ := rules_of css (fun r hr' => (hr r hr').1)
  exact ⟨v, rs, css, rfl, hs, hrs⟩

theorem pol_arg {H : Type} {enc : TypeId × Value → H} {w : World} {base : Nat} {spare : Nat → Bool} {held : Bool} {fuel : Nat} {cs : List Value} {x : DataW H × List MemPlace}
    (h : DataW.trod enc Tryz.prog w base spare held fuel 24 cs = some x) : ∃ (p : Pol) (rv : Value), cs = [rv, .int .i64 p.els] ∧ PolIs w p (.agg #[rv, .int .i64 p.els]) := by
  obtain ⟨hl, hf⟩ := struct_cells Tryz.underlying24 (by kernel_rfl) (by kernel_rfl) h
  obtain ⟨v0, n0, y0, e0, h0⟩ := hf 0 _ rfl
  obtain ⟨v1, n1, y1, e1, h1⟩ := hf 1 _ rfl
  obtain ⟨x1, rfl, _⟩ := int_cell Tryz.underlying3 h1
  obtain ⟨v, rs, css, hv, hs, hr⟩ := rules_arg h0
  obtain rfl : v0 = v := by simpa using hv
  refine ⟨⟨rs, x1⟩, v0, ?_, v0, css, rfl, hs, hr⟩
  match cs, hl with
  | [a0, a1], _ =>
    simp at e0 e1
    subst e0 e1
    rfl
end Go.Proofs.YtkiacbfpnidjlaaGreatDoor
