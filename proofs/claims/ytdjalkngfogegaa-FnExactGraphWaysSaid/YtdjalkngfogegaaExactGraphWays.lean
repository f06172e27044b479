/- FnExactGraphWays returns true for every slice of points, whatever its points are; nothing that was there is changed. No condition. -/
import Derived.Test.YtdjalkngfogegaaGraphWays
import Derived.Test.YtdjalkngfogegaaLawPoint
import Derived.Test.YtdjalkngfogegaaArgPoint
import Derived.Test.YtdjalkngfogegaaFrame
namespace Go.Proofs.Ytdjalkngfogegaa
open Go.RowKit Go.WideShapes Go.ChangeShapes Go.ChangeAt
set_option linter.unusedSimpArgs false
set_option linter.unusedVariables false

namespace exactGraphWays
set_option maxHeartbeats 1000000 in
theorem walk (v : Value) (g : List Pt) (w : World) (hs : Sl w 7 v (g.map Pt.cells)) :
    Calls Try.prog 4 #[v] w fun e w' => e = .returned (.bool true) ∧ Below w.heap.size w w' := by
  have hs0 := hs
  obtain ⟨A, n, c, rfl, hA⟩ := hs
  have hl : g.length = n := by have := hA.len; simpa using this
  have hc := hA.cap
  have hm := hA.max
  unfold maxLen at hm
  by_cases hn : n ≤ 1048576
  · have HL := Lib.hid hl; clear hl
    go_enter Try.func4, Try.ntmps4
    go_wp2_with fail
    refine (szPointS_ok A n c 1048576 _ (by omega) (by omega)).mono ?_; rintro e w1 ⟨rfl, rfl⟩
    have hd : ¬ (1048576 : Int) - n < 0 := by omega
    go_wp2_with fail
    refine (toPointS_any _ g _ hs0 (by rw [HL.out]; exact hn)).mono ?_; rintro e w1 ⟨v1, rfl, s1, b1⟩
    go_wp2_with fail
    refine (sGraphWays_any _ g _ s1).mono ?_; rintro e w2 ⟨rfl, b2⟩
    go_wp2_with fail
    refine (toPointS_any _ g _ (hs0.below (below_then b1 b2)) (by rw [HL.out]; exact hn)).mono ?_; rintro e w3 ⟨v3, rfl, s3, b3⟩
    go_wp2_with fail
    refine (GraphWays_any _ g _ s3).mono ?_; rintro e w4 ⟨rfl, b4⟩
    go_wp2_with fail
    have b04 := below_then (below_then (below_then b1 b2) b3) b4
    refine (toPointS_any _ g _ (hs0.below b04) (by rw [HL.out]; exact hn)).mono ?_; rintro e w5 ⟨v5, rfl, s5, b5⟩
    go_wp2_with fail
    have he : ptsEq g g = true := ptsEq_iff.2 rfl
    refine (eqPointS_any _ _ g g _ ((s3.below b4).below b5) s5).mono ?_; rintro e w6 ⟨rfl, b6⟩
    go_wp2
    go_ret
    exact ⟨rfl, below_then (below_then b04 b5) b6⟩
  · go_enter Try.func4, Try.ntmps4
    go_wp2_with fail
    refine (szPointS_no A n c 1048576 _ (by omega) (by omega) (by omega)).mono ?_; rintro e w1 ⟨rfl, rfl⟩
    go_wp2
    go_ret
    exact ⟨rfl, Below.refl _ _⟩

set_option maxRecDepth 100000 in
theorem lifted (os : Os) (started : os.Started) (H : Type) (enc : TypeId × Value → H) :
    ReturnsInHanded {} Try.checked os 4 .any (Rows.fnExactGraphWaysSpec.pre6 enc Try.prog Try.f4 Rows.fnExactGraphWaysRow.domain false) (Rows.fnExactGraphWaysSpec.post enc Try.prog Try.f4 false true false false) := by
  refine returnsInHanded_of_change (C := Try.checked) own started (by kernel_rfl) Try.func4
    (ChangeSpec.witness6 (enc := enc) (C := Try.checked) false ⟨#[], #[.slice none 0 0], []⟩ 8 (by kernel_rfl) (by kernel_rfl) (by kernel_rfl) (by kernel_rfl)) ?_
  intro W base args ds gs before hval hW _ _
  have hW' := hW
  obtain ⟨p, q, hA0, hV, rfl, hfz, hnd⟩ := hW
  have hA : DataW.TrodAll enc Try.prog W 0 (fun _ => true) true Try.f4.params.toList args.toList ds p := hA0
  rw [Try.params4] at hA
  obtain ⟨v0, vs0, d0, ds0, p0, q0, hargs, rfl, rfl, h0, r0⟩ := trodAll_cons hA
  obtain ⟨rfl, rfl, rfl⟩ := trodAll_nil r0
  obtain rfl : args = #[v0] := by cases args; simp_all
  obtain ⟨rfl, rfl⟩ := trodVars_none hV
  obtain ⟨fuel, hf⟩ := h0
  obtain ⟨a0, len, cap, rfl⟩ := okWide_slice Try.underlying22 (hval 0 22 v0 rfl rfl)
  obtain ⟨v, g, hc, hs⟩ := pts_arg hf
  obtain rfl : Value.slice a0 len cap = v := by simpa [Value.cells] using hc
  exact (walk _ g W hs).mono fun e W' ⟨he, hb⟩ => ⟨_, he, law_post laidOut (by kernel_rfl) rfl rfl Try.underlying4 rfl hW' hb⟩

theorem proved : Rows.FnExactGraphWaysSaid :=
  OpenClaim.holds_of_wide 4 Try.f4 rfl rfl rfl rfl rfl rfl rfl ⟨rfl, rfl, rfl, rfl, rfl⟩ rfl rfl rfl rfl rfl (by kernel_rfl) Try.func4 (by kernel_rfl)
    (of_decide_eq_true (by kernel_rfl)) (by unfold Func.isWrapper; first | (rw [if_pos (by decide +kernel)]; kernel_rfl) | (rw [if_neg (by decide +kernel)]; exact ⟨rfl, rfl⟩))
    (fun os started H enc _ => lifted os started H enc)
end exactGraphWays
end Go.Proofs.Ytdjalkngfogegaa
