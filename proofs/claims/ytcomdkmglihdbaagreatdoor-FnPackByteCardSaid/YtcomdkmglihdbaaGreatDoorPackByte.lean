/- FnPackByte returns true for every two rows of letters, and nothing that was there is changed: the row's statement, and its tied card. No condition but what the row lists: the library's tables, the table of the hash's words and errors.errorType hold what their initialisers lay. -/
import Derived.Test.YtcomdkmglihdbaaGreatDoorLawPackByte
import Derived.Test.YtcomdkmglihdbaaGreatDoorFrameV
import Derived.Test.YtcomdkmglihdbaaGreatDoorDoorE
namespace Go.Proofs.YtcomdkmglihdbaaGreatDoor
open Go.RowKit Go.WideShapes Go.ChangeShapes Go.ChangeAt
set_option linter.unusedSimpArgs false
set_option linter.unusedVariables false

namespace packByte
/-- Letters that came in. -/
theorem u8s_argP {H : Type} {enc : TypeId × Value → H} {w : World} {base : Nat} {spare : Nat → Bool} {held : Bool} {fuel : Nat} {cs : List Value} {x : DataW H × List MemPlace}
    (h : DataW.trod enc Tryz.prog w base spare held fuel 22 cs = some x) : ∃ (v : Value) (ys : List Int), cs = [v] ∧ Sl w 1 v (u8s ys) ∧ ∀ y ∈ ys, 0 ≤ y ∧ y ≤ 255 := by
  obtain ⟨v, css, rfl, hs, hr⟩ := slice_reads (size := 1) (R := fun r => ∃ p : { n : Int // 0 ≤ n ∧ n ≤ 255 }, r = [Value.int .u8 p.1]) Tryz.underlying22 (by kernel_rfl) (by omega) (fun n r y hy => by
    obtain ⟨m, hc, _, hw⟩ := DataW.trod_int Tryz.underlying5 hy
    exact ⟨⟨m, by simpa [Lit.wf, IntKind.min, IntKind.max, IntKind.signed, IntKind.bits] using hw⟩, hc⟩) h
  obtain ⟨g, rfl⟩ := all_map css (fun r hr' => (hr r hr').1)
  refine ⟨v, g.map (·.1), rfl, by simpa [u8s, List.map_map, Function.comp_def] using hs, fun x hx => ?_⟩
  obtain ⟨p, _, rfl⟩ := List.mem_map.1 hx
  exact p.2
theorem laid_met (os : Os) : laidMetH Tryz.prog Rows.fnPackByteRow.laid ((laidWorldE os Rows.fnPackByteRow.laid).forCall (fun _ _ => 0) ⟨#[], #[.slice none 0 0, .slice none 0 0], []⟩).memory :=
  laidMetH_of_parts (laidMet_of_run' 8 (by kernel_rfl) (by kernel_rfl)) (by kernel_rfl)
theorem reads (os : Os) {H : Type} (enc : TypeId × Value → H) : (DataW.whole enc Tryz.prog ((laidWorldE os Rows.fnPackByteRow.laid).forCall (fun _ _ => 0) ⟨#[], #[.slice none 0 0, .slice none 0 0], []⟩).memory Tryz.f3.params.toList Rows.fnPackByteSpec.vars false #[Value.slice none 0 0, Value.slice none 0 0].toList 8).isSome = true := by kernel_rfl

set_option maxRecDepth 100000 in
theorem lifted (os : Os) (started : os.Started) (H : Type) (enc : TypeId × Value → H) (F : Stop.Interp) :
    ReturnsInHanded {} Tryz.checked os 3 .any ((OpenSpec.ofChange Rows.fnPackByteSpec).preRow enc Tryz.prog Tryz.f3 Rows.fnPackByteRow.domain false Rows.fnPackByteRow.laid) (((OpenSpec.ofChange Rows.fnPackByteSpec).at F).post enc Tryz.prog Tryz.f3 false true false false) := by
  obtain ⟨x, hx⟩ := Option.isSome_iff_exists.1 (reads os enc)
  refine returnsInHanded_of_row (C := Tryz.checked) (s := OpenSpec.ofChange Rows.fnPackByteSpec) own started (by kernel_rfl) Tryz.func3
    (witness_row_at (enc := enc) (C := Tryz.checked) false (laidWorldE os Rows.fnPackByteRow.laid) #[.slice none 0 0, .slice none 0 0] rfl (by kernel_rfl) (by kernel_rfl) (by kernel_rfl)
      (OpenSpec.preRow_of_cond 8 hx rfl (fun k hk => by cases hk) (by kernel_rfl) (laid_met os))) ?_
  intro W base args ds gs before hval hW _ _ _ hL _ _
  have hW' := hW
  obtain ⟨p, q, hA0, hV, rfl, hfz, hnd⟩ := hW
  have hA : DataW.TrodAll enc Tryz.prog W 0 (fun _ => true) true Tryz.f3.params.toList args.toList ds p := hA0
  rw [Tryz.params3] at hA
  obtain ⟨v0, vs0, d0, ds0, p0, q0, hargs, rfl, rfl, h0, r0⟩ := trodAll_cons hA
  obtain ⟨v1, vs1, d1, ds1, p1, q1, hargs1, rfl, rfl, h1, r1⟩ := trodAll_cons r0
  obtain ⟨rfl, rfl, rfl⟩ := trodAll_nil r1
  subst hargs1
  obtain rfl : args = #[v0, v1] := by cases args; simp_all
  obtain ⟨gg, tg, cg, fg, dg, pg, rfl, -, -, -, -, -⟩ := trodVars_one (show DataW.TrodVars enc Tryz.prog W (fun _ => true) ["loop.example/gatelodge/impl.hashWords"] gs q from hV)
  obtain ⟨fuel0, hf0⟩ := h0
  obtain ⟨fuel1, hf1⟩ := h1
  obtain ⟨a0, len0, cap0, rfl⟩ := okWide_slice Tryz.underlying22 (hval 0 22 v0 rfl rfl)
  obtain ⟨a1, len1, cap1, rfl⟩ := okWide_slice Tryz.underlying22 (hval 1 22 v1 rfl rfl)
  obtain ⟨x0, ys, hc0, hs0, hb0⟩ := u8s_argP hf0
  obtain ⟨x1, zs, hc1, hs1, hb1⟩ := u8s_argP hf1
  obtain rfl : Value.slice a0 len0 cap0 = x0 := by simpa [Value.cells] using hc0
  obtain rfl : Value.slice a1 len1 cap1 = x1 := by simpa [Value.cells] using hc1
  obtain ⟨hLm, hLh⟩ := laidMetH_split hL (show _ = ("errors.errorType", Rows.laid_errors_errorType) :: [] by kernel_rfl)
  exact (walk _ _ ys zs W (pow_of_laidE hLm (by kernel_rfl)) (kww_of_laidE hLm (by kernel_rfl)) (et_of_handles hLh) hs0 hb0 hs1 hb1).mono fun e W' ⟨he, hb⟩ => ⟨_, he, law_postV laidOut (by kernel_rfl) (by kernel_rfl) rfl Tryz.underlying4 rfl hW' hb⟩

theorem said : Rows.FnPackByteSaid :=
  OpenClaim.holds_of_cond 3 Tryz.f3 rfl rfl rfl rfl rfl rfl rfl ⟨rfl, rfl, rfl, rfl, rfl⟩ rfl rfl rfl rfl rfl (by kernel_rfl) Tryz.func3 (by kernel_rfl)
    (of_decide_eq_true (by kernel_rfl)) (by unfold Func.isWrapper; first | (rw [if_pos (by decide +kernel)]; kernel_rfl) | (rw [if_neg (by decide +kernel)]; exact ⟨rfl, rfl⟩))
    (fun os started H enc _ F => by rw [OpenClaim.pre_eq_preRow]; exact lifted os started H enc F)

theorem plain (f : FuncId) (fn : Func) (hf : Tryz.pinned.checked.prog.funcNamed "loop.example/gatelodge/laws.FnPackByte" = some f) (hfn : Tryz.pinned.checked.prog.funcs[f]? = some fn) :
    true = Tryz.pinned.checked.prog.looks [] ∧ ∀ (j : Nat) t, fn.params[j]? = some t → Tryz.pinned.checked.prog.wantsStandIn t = false := by
  obtain rfl : f = 3 := Option.some.inj ((show Tryz.prog.funcNamed "loop.example/gatelodge/laws.FnPackByte" = some 3 by kernel_rfl).symm.trans hf) |>.symm
  obtain rfl : fn = Tryz.f3 := (Option.some.inj (Tryz.func3.symm.trans hfn)).symm
  refine ⟨by kernel_rfl, fun j t ht => ?_⟩
  rw [Tryz.params3] at ht
  obtain rfl : t = 22 := by simpa using Array.mem_of_getElem? ht
  exact (show Tryz.prog.wantsStandIn 22 = false by kernel_rfl)

theorem card : Rows.FnPackByteCardSaid :=
  Claim7.holds_tied_plain_at .later [] _ _ _ _ said (fun _ h => by cases h) (by kernel_rfl) (fun _ h => by cases h) fnPackByte_row_tie rfl ⟨rfl, rfl⟩ (by kernel_rfl) rfl plain (by kernel_rfl)
end packByte
end Go.Proofs.YtcomdkmglihdbaaGreatDoor
