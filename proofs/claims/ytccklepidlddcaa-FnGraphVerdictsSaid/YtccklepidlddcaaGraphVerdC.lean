/- FnGraphVerdicts returns true for every two rows of letters, and nothing that was there is changed. No condition. -/
import Derived.Test.YtccklepidlddcaaLawGraphVerd
import Derived.Test.YtccklepidlddcaaKit
import Derived.Test.YtccklepidlddcaaFrame
namespace Go.Proofs.Ytccklepidlddcaa
open Go.RowKit Go.WideShapes Go.ChangeShapes Go.ChangeAt
set_option linter.unusedSimpArgs false
set_option linter.unusedVariables false

/-- Letters that came in. -/
theorem u8s_arg {H : Type} {enc : TypeId × Value → H} {w : World} {base : Nat} {spare : Nat → Bool} {held : Bool} {fuel : Nat} {cs : List Value} {x : DataW H × List MemPlace}
    (h : DataW.trod enc Try.prog w base spare held fuel 22 cs = some x) : ∃ (v : Value) (ys : List Int), cs = [v] ∧ Sl w 1 v (u8s ys) ∧ ∀ y ∈ ys, 0 ≤ y ∧ y ≤ 255 := by
  obtain ⟨v, css, rfl, hs, hr⟩ := slice_reads (size := 1) (R := fun r => ∃ p : { n : Int // 0 ≤ n ∧ n ≤ 255 }, r = [Value.int .u8 p.1]) Try.underlying22 (by kernel_rfl) (by omega) (fun n r y hy => by
    obtain ⟨m, hc, _, hw⟩ := DataW.trod_int Try.underlying5 hy
    exact ⟨⟨m, by simpa [Lit.wf, IntKind.min, IntKind.max, IntKind.signed, IntKind.bits] using hw⟩, hc⟩) h
  obtain ⟨g, rfl⟩ := all_map css (fun r hr' => (hr r hr').1)
  refine ⟨v, g.map (·.1), rfl, by simpa [u8s, List.map_map, Function.comp_def] using hs, fun x hx => ?_⟩
  obtain ⟨p, _, rfl⟩ := List.mem_map.1 hx
  exact p.2

namespace lawGraphVerdicts
set_option maxRecDepth 100000 in
theorem lifted (os : Os) (started : os.Started) (H : Type) (enc : TypeId × Value → H) :
    ReturnsInHanded {} Try.checked os 3 .any (Rows.fnGraphVerdictsSpec.pre6 enc Try.prog Try.f3 Rows.fnGraphVerdictsRow.domain false) (Rows.fnGraphVerdictsSpec.post enc Try.prog Try.f3 false true false false) := by
  refine returnsInHanded_of_change (C := Try.checked) own started (by kernel_rfl) Try.func3
    (ChangeSpec.witness6 (enc := enc) (C := Try.checked) false ⟨#[], #[.slice none 0 0, .slice none 0 0], []⟩ 8 (by kernel_rfl) (by kernel_rfl) (by kernel_rfl) (by kernel_rfl)) ?_
  intro W base args ds gs before hval hW _ _
  have hW' := hW
  obtain ⟨p, q, hA0, hV, rfl, hfz, hnd⟩ := hW
  have hA : DataW.TrodAll enc Try.prog W 0 (fun _ => true) true Try.f3.params.toList args.toList ds p := hA0
  rw [Try.params3] at hA
  obtain ⟨v0, vs0, d0, ds0, p0, q0, hargs, rfl, rfl, h0, r0⟩ := trodAll_cons hA
  obtain ⟨v1, vs1, d1, ds1, p1, q1, rfl, rfl, rfl, h1, r1⟩ := trodAll_cons r0
  obtain ⟨rfl, rfl, rfl⟩ := trodAll_nil r1
  obtain rfl : args = #[v0, v1] := by cases args; simp_all
  obtain ⟨rfl, rfl⟩ := trodVars_none hV
  obtain ⟨fuel, hf⟩ := h0
  obtain ⟨fuel1, hf1⟩ := h1
  obtain ⟨a0, len, cap, rfl⟩ := okWide_slice Try.underlying22 (hval 0 22 v0 rfl rfl)
  obtain ⟨a1, len1, cap1, rfl⟩ := okWide_slice Try.underlying22 (hval 1 22 v1 rfl rfl)
  obtain ⟨v, ys, hc, hs, hb0⟩ := u8s_arg hf
  obtain rfl : Value.slice a0 len cap = v := by simpa [Value.cells] using hc
  obtain ⟨v', zs, hc', hs', hb0'⟩ := u8s_arg hf1
  obtain rfl : Value.slice a1 len1 cap1 = v' := by simpa [Value.cells] using hc'
  exact (walk _ _ ys zs W hs hb0 hs' hb0').mono fun e W' ⟨he, hb⟩ => ⟨_, he, law_post laidOut (by kernel_rfl) rfl rfl Try.underlying4 rfl hW' hb⟩

theorem proved : Rows.FnGraphVerdictsSaid :=
  OpenClaim.holds_of_wide 3 Try.f3 rfl rfl rfl rfl rfl rfl rfl ⟨rfl, rfl, rfl, rfl, rfl⟩ rfl rfl rfl rfl rfl (by kernel_rfl) Try.func3 (by kernel_rfl)
    (of_decide_eq_true (by kernel_rfl)) (by unfold Func.isWrapper; first | (rw [if_pos (by decide +kernel)]; kernel_rfl) | (rw [if_neg (by decide +kernel)]; exact ⟨rfl, rfl⟩))
    (fun os started H enc _ => lifted os started H enc)
end lawGraphVerdicts
end Go.Proofs.Ytccklepidlddcaa
