/- FnExactCodeMost returns true for every program, and nothing that was there is changed: the row's statement, and its tied card. No condition but what the row lists: the library's tables hold what their initialisers lay. -/
import Derived.Test.YtbcbbemkjaabjaaDoorCodeMost
import Derived.Test.YtbcbbemkjaabjaaDoorLawInsTo
import Derived.Test.YtbcbbemkjaabjaaDoorDoor
namespace Go.Proofs.YtbcbbemkjaabjaaDoor
open Go.RowKit Go.WideShapes Go.ChangeShapes Go.ChangeAt
set_option linter.unusedSimpArgs false
set_option linter.unusedVariables false

namespace exactCodeMost
set_option maxHeartbeats 2000000 in
theorem walk (u : Value) (g : List In4) (w : World) (hp : Pow w) (hu : Sl w 4 u (insR g)) :
    Calls Tryd.prog 3 #[u] w fun e w' => e = .returned (.bool true) ∧ Below w.heap.size w w' := by
  have hu0 := hu
  obtain ⟨A, n, c, rfl, hA⟩ := hu
  have hl : g.length = n := by have := hA.len; rwa [insR_len] at this
  have hmx := hA.max
  have hcp := hA.cap
  unfold maxLen at hmx
  clear hA
  by_cases hn : n ≤ 1048576
  · have he : codeEq g g = true := codeEq_iff.2 rfl
    have HL := Lib.hid hl; clear hl
    have hm0 : ¬ (1048576 : Int) - n < 0 := by omega
    have hxl : g.length ≤ 1048576 := by rw [HL.out]; exact hn
    have HX := Lib.hid hxl; clear hxl
    go_enter Tryd.func3, Tryd.ntmps3
    go_wp2_with fail
    refine (szInsS_ok A n c 1048576 _ (by omega) (by omega)).mono ?_; rintro e w1 ⟨rfl, rfl⟩
    go_wp2_with fail
    refine (toInsS_any _ g _ hu0 HX.out).mono ?_; rintro e w2 ⟨v2, rfl, o2, b2⟩
    have s2 := SlA.of_own o2 (insR_len g) (insR_rows g)
    go_wp2_with fail
    refine (sCodeMost_any _ g _ s2).mono ?_; rintro e w3 ⟨rfl, b3⟩
    have b03 := below_then b2 b3
    go_wp2_with fail
    refine (toInsS_any _ g _ (hu0.below b03) HX.out).mono ?_; rintro e w4 ⟨v4, rfl, o4, b4⟩
    have s4 := SlA.of_own o4 (insR_len g) (insR_rows g)
    have b04 := below_then b03 b4
    go_wp2_with fail
    refine (CodeMost_any _ g _ s4 (hp.below b04)).mono ?_; rintro e w5 ⟨rfl, b5⟩
    have b05 := below_then b04 b5
    go_wp2_with fail
    refine (toInsS_any _ g _ (hu0.below b05) HX.out).mono ?_; rintro e w6 ⟨v6, rfl, o6, b6⟩
    have s6 := SlA.of_own o6 (insR_len g) (insR_rows g)
    go_wp2_with fail
    refine (eqInsS_any _ _ g g _ ((s4.below b5).below b6) s6).mono ?_; rintro e w7 ⟨rfl, b7⟩
    rw [he]
    go_wp2
    all_goals
      go_ret
      exact ⟨rfl, below_then (below_then b05 b6) b7⟩
  · go_enter Tryd.func3, Tryd.ntmps3
    go_wp2_with fail
    refine (szInsS_no A n c 1048576 _ (by omega) (by omega) (by omega)).mono ?_; rintro e w1 ⟨rfl, rfl⟩
    go_wp2
    go_ret
    exact ⟨rfl, Below.refl _ _⟩

theorem laid_met (os : Os) : laidMet Tryd.prog Rows.fnExactCodeMostRow.laid ((laidWorld os Rows.fnExactCodeMostRow.laid).forCall (fun _ _ => 0) ⟨#[], #[.slice none 0 0], []⟩).memory :=
  laidMet_of_run' 8 (by kernel_rfl) (by kernel_rfl)
theorem reads (os : Os) {H : Type} (enc : TypeId × Value → H) : ∃ places, DataW.whole enc Tryd.prog ((laidWorld os Rows.fnExactCodeMostRow.laid).forCall (fun _ _ => 0) ⟨#[], #[.slice none 0 0], []⟩).memory Tryd.f3.params.toList Rows.fnExactCodeMostSpec.vars false #[.slice none 0 0].toList 8 = some ([.nil], [], places) :=
  ⟨[], by kernel_rfl⟩

set_option maxRecDepth 100000 in
theorem lifted (os : Os) (started : os.Started) (H : Type) (enc : TypeId × Value → H) (F : Stop.Interp) :
    ReturnsInHanded {} Tryd.checked os 3 .any ((OpenSpec.ofChange Rows.fnExactCodeMostSpec).preRow enc Tryd.prog Tryd.f3 Rows.fnExactCodeMostRow.domain false Rows.fnExactCodeMostRow.laid) (((OpenSpec.ofChange Rows.fnExactCodeMostSpec).at F).post enc Tryd.prog Tryd.f3 false true false false) := by
  obtain ⟨places, hx⟩ := reads os enc
  refine returnsInHanded_of_row (C := Tryd.checked) (s := OpenSpec.ofChange Rows.fnExactCodeMostSpec) own started (by kernel_rfl) Tryd.func3
    (witness_row_at (enc := enc) (C := Tryd.checked) false (laidWorld os Rows.fnExactCodeMostRow.laid) #[.slice none 0 0] rfl (by kernel_rfl) (by kernel_rfl) (by kernel_rfl)
      (OpenSpec.preRow_of_cond 8 hx (by kernel_rfl) (fun k hk => by cases hk) (by kernel_rfl) (laid_met os))) ?_
  intro W base args ds gs before hval hW _ _ _ hL _ _
  have hW' := hW
  obtain ⟨p, q, hA0, hV, rfl, hfz, hnd⟩ := hW
  have hA : DataW.TrodAll enc Tryd.prog W 0 (fun _ => true) true Tryd.f3.params.toList args.toList ds p := hA0
  rw [Tryd.params3] at hA
  obtain ⟨v0, vs0, d0, ds0, p0, q0, hargs, rfl, rfl, h0, r0⟩ := trodAll_cons hA
  obtain ⟨rfl, rfl, rfl⟩ := trodAll_nil r0
  obtain rfl : args = #[v0] := by cases args; simp_all
  obtain ⟨rfl, rfl⟩ := trodVars_none hV
  obtain ⟨fuel, hf⟩ := h0
  obtain ⟨a0, len, cap, rfl⟩ := okWide_slice Tryd.underlying22 (hval 0 22 v0 rfl rfl)
  obtain ⟨v, g, hc, hs⟩ := ins_arg hf
  obtain rfl : Value.slice a0 len cap = v := by simpa [Value.cells] using hc
  exact (walk _ g W (pow_of_laid hL (by kernel_rfl) (by kernel_rfl)) hs).mono fun e W' ⟨he, hb⟩ => ⟨_, he, law_post laidOut (by kernel_rfl) rfl rfl Tryd.underlying4 rfl hW' hb⟩

theorem said : Rows.FnExactCodeMostSaid :=
  OpenClaim.holds_of_cond 3 Tryd.f3 rfl rfl rfl rfl rfl rfl rfl ⟨rfl, rfl, rfl, rfl, rfl⟩ rfl rfl rfl rfl rfl (by kernel_rfl) Tryd.func3 (by kernel_rfl)
    (of_decide_eq_true (by kernel_rfl)) (by unfold Func.isWrapper; first | (rw [if_pos (by decide +kernel)]; kernel_rfl) | (rw [if_neg (by decide +kernel)]; exact ⟨rfl, rfl⟩))
    (fun os started H enc _ F => by rw [OpenClaim.pre_eq_preRow]; exact lifted os started H enc F)

theorem plain (f : FuncId) (fn : Func) (hf : Tryd.pinned.checked.prog.funcNamed "loop.example/gatelodge/laws.FnExactCodeMost" = some f) (hfn : Tryd.pinned.checked.prog.funcs[f]? = some fn) :
    false = Tryd.pinned.checked.prog.looks [] ∧ ∀ (j : Nat) t, fn.params[j]? = some t → Tryd.pinned.checked.prog.wantsStandIn t = false := by
  obtain rfl : f = 3 := Option.some.inj ((show Tryd.prog.funcNamed "loop.example/gatelodge/laws.FnExactCodeMost" = some 3 by kernel_rfl).symm.trans hf) |>.symm
  obtain rfl : fn = Tryd.f3 := (Option.some.inj (Tryd.func3.symm.trans hfn)).symm
  refine ⟨by kernel_rfl, fun j t ht => ?_⟩
  rw [Tryd.params3] at ht
  obtain rfl : t = 22 := by simpa using Array.mem_of_getElem? ht
  exact (show Tryd.prog.wantsStandIn 22 = false by kernel_rfl)

theorem card : Rows.FnExactCodeMostCardSaid :=
  Claim7.holds_tied_plain_at .later [] _ _ _ _ said (fun _ h => by cases h) (by kernel_rfl) (fun _ h => by cases h) fnExactCodeMost_row_tie rfl ⟨rfl, rfl⟩ (by kernel_rfl) rfl plain (by kernel_rfl)
end exactCodeMost
end Go.Proofs.YtbcbbemkjaabjaaDoor
