/- FnExactBookOk returns true for every book, and nothing that was there is changed: the row's statement, and its tied card. No condition but what the row lists: the library's tables and the table of the hash's words hold what their initialisers lay. -/
import Derived.Test.YtaieopdfkapgdaaDoorBookC
import Derived.Test.YtaieopdfkapgdaaDoorLawLine5
import Derived.Test.YtaieopdfkapgdaaDoorArgLine
import Derived.Test.YtaieopdfkapgdaaDoorFrameV
import Derived.Test.YtaieopdfkapgdaaDoorDoorH
namespace Go.Proofs.YtaieopdfkapgdaaDoor
open Go.RowKit Go.WideShapes Go.ChangeShapes Go.ChangeAt
set_option linter.unusedSimpArgs false
set_option linter.unusedVariables false

namespace exactBookOk
set_option maxHeartbeats 4000000 in
theorem walk (v : Value) (b : List Ln) (w : World) (hp : Pow w) (hk : Kww w) (hv : BookIs w v b) (hz : ∀ ln ∈ b, ln.told.args.length ≤ 9223372036854775807 ∧ ln.sum.length ≤ 9223372036854775807) :
    Calls Tryd.prog 4 #[v] w fun e w' => e = .returned (.bool true) ∧ Below w.heap.size w w' := by
  obtain ⟨q, hq⟩ : ∃ q, q = bookOkB b := ⟨_, rfl⟩
  have HQ := Lib.hid hq; have HP := Lib.hid hp; have HK := Lib.hid hk
  have hqq : (q != q) = false := by simp
  clear hq hp hk
  have hv0 := hv
  obtain ⟨A, n, c, css, rfl, -⟩ := hv
  by_cases hle : ((b.length + lnsSize b : Nat) : Int) ≤ 1048576
  · have HL := Lib.hid (show leftOf 1048576 (b.length + lnsSize b) = 1048576 - ((b.length + lnsSize b : Nat) : Int) by unfold leftOf; rw [if_pos hle])
    have hd : ¬ 1048576 - ((b.length + lnsSize b : Nat) : Int) < 0 := by omega
    have hn : b.length ≤ 1048576 := by omega
    have HSZ := Lib.hid (show ∀ ln ∈ b, ln.told.args.length ≤ 1048576 from fun ln hm => by have := lnsSize_mem hm; have := lnSize_args ln; omega)
    have HOK := Lib.hid hv0.ok; have HV := Lib.hid hv0; have HZ := Lib.hid hz; have HN := Lib.hid hn
    obtain ⟨z, hzz⟩ : ∃ z : Int, z = 1048576 - ((b.length + lnsSize b : Nat) : Int) := ⟨_, rfl⟩
    rw [← hzz] at HL hd
    have HMX := Lib.hid (show b.length ≤ maxLen by unfold maxLen; omega)
    clear hzz hv0 hz hle hn
    go_enter Tryd.func4, Tryd.ntmps4
    go_wp2_with fail
    refine (szLineS_any _ b 1048576 _ HV.out (by omega) (by omega) HZ.out).mono ?_; rintro e w1 ⟨rfl, b1⟩
    rw [HL.out]
    go_wp2_with fail
    refine (toLineS_any _ b _ (HV.out.below b1) HN.out HSZ.out).mono ?_; rintro e w2 ⟨c2, rfl, rfl, o2, b2⟩
    have H2 := Lib.hid (o2.book HOK.out HMX.out); have B2 := Lib.hid (below_then b1 b2)
    clear o2 b1 b2
    go_wp2_with fail
    refine (sBookOk_any _ b _ H2.out).mono ?_; rintro e w3 ⟨rfl, b3⟩
    rw [← HQ.out]
    have B3 := Lib.hid (below_then B2.out b3)
    clear b3
    go_wp2_with fail
    refine (toLineS_any _ b _ (HV.out.below B3.out) HN.out HSZ.out).mono ?_; rintro e w4 ⟨c4, rfl, rfl, o4, b4⟩
    have H4 := Lib.hid (o4.book HOK.out HMX.out); have B4 := Lib.hid (below_then B3.out b4)
    clear o4 b4
    go_wp2_with fail
    refine (BookOk_any _ b _ (HP.out.below B4.out) (HK.out.below B4.out (Nat.le_refl _)) H4.out).mono ?_; rintro e w5 ⟨rfl, b5⟩
    rw [← HQ.out]
    have B5 := Lib.hid (below_then B4.out b5); have H45 := Lib.hid (H4.out.below b5)
    clear b5
    go_wp2_with fail
    refine (toLineS_any _ b _ (HV.out.below B5.out) HN.out HSZ.out).mono ?_; rintro e w6 ⟨c6, rfl, rfl, o6, b6⟩
    have H6 := Lib.hid (o6.book HOK.out HMX.out); have B6 := Lib.hid (below_then B5.out b6); have H46 := Lib.hid (H45.out.below b6)
    clear o6 b6
    go_wp2_with fail
    refine (eqLineS_same _ _ b _ H46.out H6.out).mono ?_; rintro e w7 ⟨rfl, b7⟩
    have B7 := Lib.hid (below_then B6.out b7)
    clear b7
    go_wp2
    go_ret
    exact ⟨rfl, B7.out⟩
  · have HL := Lib.hid (show leftOf 1048576 (b.length + lnsSize b) = -1 by unfold leftOf; rw [if_neg hle])
    have HV := Lib.hid hv0; have HZ := Lib.hid hz
    clear hv0 hz hle
    go_enter Tryd.func4, Tryd.ntmps4
    go_wp2_with fail
    refine (szLineS_any _ b 1048576 _ HV.out (by omega) (by omega) HZ.out).mono ?_; rintro e w1 ⟨rfl, b1⟩
    rw [HL.out]
    go_wp2
    go_ret
    exact ⟨rfl, b1⟩

theorem laid_met (os : Os) : laidMet Tryd.prog Rows.fnExactBookOkRow.laid ((laidWorld os Rows.fnExactBookOkRow.laid).forCall (fun _ _ => 0) ⟨#[], #[.slice none 0 0], []⟩).memory :=
  laidMet_of_run' 8 (by kernel_rfl) (by kernel_rfl)
theorem reads (os : Os) {H : Type} (enc : TypeId × Value → H) : (DataW.whole enc Tryd.prog ((laidWorld os Rows.fnExactBookOkRow.laid).forCall (fun _ _ => 0) ⟨#[], #[.slice none 0 0], []⟩).memory Tryd.f4.params.toList Rows.fnExactBookOkSpec.vars false #[.slice none 0 0].toList 8).isSome = true := by kernel_rfl

set_option maxRecDepth 100000 in
theorem lifted (os : Os) (started : os.Started) (H : Type) (enc : TypeId × Value → H) (F : Stop.Interp) :
    ReturnsInHanded {} Tryd.checked os 4 .any ((OpenSpec.ofChange Rows.fnExactBookOkSpec).preRow enc Tryd.prog Tryd.f4 Rows.fnExactBookOkRow.domain false Rows.fnExactBookOkRow.laid) (((OpenSpec.ofChange Rows.fnExactBookOkSpec).at F).post enc Tryd.prog Tryd.f4 false true false false) := by
  obtain ⟨x, hx⟩ := Option.isSome_iff_exists.1 (reads os enc)
  refine returnsInHanded_of_row (C := Tryd.checked) (s := OpenSpec.ofChange Rows.fnExactBookOkSpec) own started (by kernel_rfl) Tryd.func4
    (witness_row_at (enc := enc) (C := Tryd.checked) false (laidWorld os Rows.fnExactBookOkRow.laid) #[.slice none 0 0] rfl (by kernel_rfl) (by kernel_rfl) (by kernel_rfl)
      (OpenSpec.preRow_of_cond 8 hx rfl (fun k hk => by cases hk) (by kernel_rfl) (laid_met os))) ?_
  intro W base args ds gs before hval hW _ _ _ hL _ _
  have hW' := hW
  obtain ⟨p, q, hA0, hV, rfl, hfz, hnd⟩ := hW
  have hA : DataW.TrodAll enc Tryd.prog W 0 (fun _ => true) true Tryd.f4.params.toList args.toList ds p := hA0
  rw [Tryd.params4] at hA
  obtain ⟨v0, vs0, d0, ds0, p0, q0, hargs, rfl, rfl, h0, r0⟩ := trodAll_cons hA
  obtain ⟨rfl, rfl, rfl⟩ := trodAll_nil r0
  obtain rfl : args = #[v0] := by cases args; simp_all
  obtain ⟨gg, tg, cg, fg, dg, pg, rfl, -, -, -, -, -⟩ := trodVars_one (show DataW.TrodVars enc Tryd.prog W (fun _ => true) ["loop.example/gatelodge/impl.hashWords"] gs q from hV)
  obtain ⟨fuel0, hf0⟩ := h0
  obtain ⟨a0, len0, cap0, rfl⟩ := okWide_slice Tryd.underlying37 (hval 0 37 v0 rfl rfl)
  obtain ⟨u0, b, hc0, hs0, hz0⟩ := book_arg hf0
  obtain rfl : Value.slice a0 len0 cap0 = u0 := by simpa [Value.cells] using hc0
  exact (walk _ b W (pow_of_laid hL (by kernel_rfl) (by kernel_rfl)) (kww_of_laid hL (by kernel_rfl) (by kernel_rfl)) hs0 hz0).mono fun e W' ⟨he, hb⟩ => ⟨_, he, law_postV laidOut (by kernel_rfl) (by kernel_rfl) rfl Tryd.underlying4 rfl hW' hb⟩

theorem said : Rows.FnExactBookOkSaid :=
  OpenClaim.holds_of_cond 4 Tryd.f4 rfl rfl rfl rfl rfl rfl rfl ⟨rfl, rfl, rfl, rfl, rfl⟩ rfl rfl rfl rfl rfl (by kernel_rfl) Tryd.func4 (by kernel_rfl)
    (of_decide_eq_true (by kernel_rfl)) (by unfold Func.isWrapper; first | (rw [if_pos (by decide +kernel)]; kernel_rfl) | (rw [if_neg (by decide +kernel)]; exact ⟨rfl, rfl⟩))
    (fun os started H enc _ F => by rw [OpenClaim.pre_eq_preRow]; exact lifted os started H enc F)

theorem plain (f : FuncId) (fn : Func) (hf : Tryd.pinned.checked.prog.funcNamed "loop.example/gatelodge/laws.FnExactBookOk" = some f) (hfn : Tryd.pinned.checked.prog.funcs[f]? = some fn) :
    false = Tryd.pinned.checked.prog.looks [] ∧ ∀ (j : Nat) t, fn.params[j]? = some t → Tryd.pinned.checked.prog.wantsStandIn t = false := by
  obtain rfl : f = 4 := Option.some.inj ((show Tryd.prog.funcNamed "loop.example/gatelodge/laws.FnExactBookOk" = some 4 by kernel_rfl).symm.trans hf) |>.symm
  obtain rfl : fn = Tryd.f4 := (Option.some.inj (Tryd.func4.symm.trans hfn)).symm
  refine ⟨by kernel_rfl, fun j t ht => ?_⟩
  rw [Tryd.params4] at ht
  obtain rfl : t = 37 := by simpa using Array.mem_of_getElem? ht
  exact (show Tryd.prog.wantsStandIn 37 = false by kernel_rfl)

theorem card : Rows.FnExactBookOkCardSaid :=
  Claim7.holds_tied_plain_at .later [] _ _ _ _ said (fun _ h => by cases h) (by kernel_rfl) (fun _ h => by cases h) fnExactBookOk_row_tie rfl ⟨rfl, rfl⟩ (by kernel_rfl) rfl plain (by kernel_rfl)
end exactBookOk
end Go.Proofs.YtaieopdfkapgdaaDoor
