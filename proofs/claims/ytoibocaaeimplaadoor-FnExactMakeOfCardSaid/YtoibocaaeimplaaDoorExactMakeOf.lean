/- FnExactMakeOf returns true for every slice of points, and nothing that was there is changed: the row's statement, and its tied card. No condition but what the row lists: the library's tables hold what their initialisers lay. -/
import Derived.Test.YtoibocaaeimplaaDoorMakeI
import Derived.Test.YtoibocaaeimplaaDoorLay5
import Derived.Test.YtoibocaaeimplaaDoorLawPointM
import Derived.Test.YtoibocaaeimplaaDoorArgPoint
import Derived.Test.YtoibocaaeimplaaDoorDoor
namespace Go.Proofs.YtoibocaaeimplaaDoor
open Go.RowKit Go.WideShapes Go.ChangeShapes Go.ChangeAt
set_option linter.unusedSimpArgs false
set_option linter.unusedVariables false

theorem own_apart_r {V R : World} {b1 b2 s1 s2 n1 n2 : Nat} {e1 e2 : TypeId} {v1 v2 : Value} {x1 x2 : List Value} (h1 : V.ownsRow b1 e1 s1 v1 n1 x1) (h2 : R.ownsRow b2 e2 s2 v2 n2 x2) (hb : V.heap.size ≤ b2) : v1.ownBlock = none ∨ v1.ownBlock ≠ v2.ownBlock := by
  cases h : v1.ownBlock with
  | none => exact .inl rfl
  | some k =>
    refine .inr fun e => ?_
    have a := (h1.lt k h).2
    have b := (h2.lt k e.symm).1
    omega

namespace exactMakeOf
set_option maxHeartbeats 4000000 in
theorem walk (u : Value) (g : List Pt) (w : World) (hp : Pow w) (hu : Sl w 7 u (g.map Pt.cells)) :
    Calls Tryd.prog 3 #[u] w fun e w' => e = .returned (.bool true) ∧ Below w.heap.size w w' := by
  have HU := Lib.hid hu
  obtain ⟨A, n, c, rfl, hA⟩ := hu
  have hl : g.length = n := by have := hA.len; simpa using this
  have hmx := hA.max
  have hcp := hA.cap
  unfold maxLen at hmx
  clear hA
  by_cases hn : n ≤ 1048576
  · have HL := Lib.hid hl; clear hl
    have HX := Lib.hid (show g.length ≤ 1048576 by rw [HL.out]; exact hn)
    have hm0 : ¬ (1048576 : Int) - n < 0 := by omega
    go_enter Tryd.func3, Tryd.ntmps3
    go_wp2_with fail
    refine (szPointS_ok A n c 1048576 _ (by omega) (by omega)).mono ?_; rintro e w1 ⟨rfl, rfl⟩
    go_wp2_with fail
    refine (toPointS_own _ g _ HU.out HX.out).mono ?_; rintro e w1 ⟨v1, rfl, o1, b1⟩
    have s1 := SlA.of_own o1 (by simp) (Pt.rows g)
    go_wp2_with fail
    refine (sMakeOf_any _ g _ s1).mono ?_; rintro e w2 ⟨v2, x, ok, rfl, hmk, o2, b2⟩
    have b02 := below_then b1 b2
    have hxl := hmk.len
    have HM := Lib.hid hmk
    have H2 := Lib.hid o2
    clear s1 o1 o2 b1 b2 hmk
    go_wp2_with fail
    refine (toPointS_own _ g _ (HU.out.below b02) HX.out).mono ?_; rintro e w3 ⟨v3, rfl, o3, b3⟩
    have s3 := SlA.of_own o3 (by simp) (Pt.rows g)
    have b03 := below_then b02 b3
    have H23 := Lib.hid (own_below H2.out b3)
    have H3 := Lib.hid o3
    clear o3
    go_wp2_with fail
    refine (MakeOf_any _ g _ s3 (hp.below b03)).mono ?_; rintro e w4 ⟨v4, x', ok', rfl, hmk, o4, b4⟩
    obtain ⟨rfl, rfl⟩ := HM.out.one hmk
    have b04 := below_then b03 b4
    have H24 := Lib.hid (own_below H23.out b4); have H34 := Lib.hid (own_below H3.out b4)
    have H4 := Lib.hid o4
    have z3 := b3.size
    have z4 := b4.size
    have z02 := b02.size
    clear hmk s3 o4 H23
    have he : codeEq x x = true := codeEq_iff.2 rfl
    have hoo : (ok != ok) = false := by simp
    have HE := Lib.hid he; clear he
    go_wp2_with fail
    refine (eqInsS_any _ _ x x _ (SlA.of_own H4.out (insR_len x) (insR_rows x)) (SlA.of_own H24.out (insR_len x) (insR_rows x))).mono ?_; rintro e w5 ⟨rfl, b5⟩
    rw [HE.out]
    have b05 := below_then b04 b5
    go_wp2_with fail
    refine (toPointS_own _ g _ (HU.out.below b05) HX.out).mono ?_; rintro e w6 ⟨v6, rfl, o6, b6⟩
    have b06 := below_then b05 b6
    have H36 := Lib.hid (own_below (own_below H34.out b5) b6)
    have HQ := Lib.hid (ptsEq_iff.2 (rfl : g = g))
    have H6 := Lib.hid o6
    clear o6
    go_wp2_with fail
    refine (eqPointS_any _ _ g g _ (SlA.of_own H36.out (by simp) (Pt.rows g)) (SlA.of_own H6.out (by simp) (Pt.rows g))).mono ?_; rintro e w7 ⟨rfl, b7⟩
    rw [HQ.out]
    have b07 := below_then b06 b7
    have H37 := Lib.hid (own_below H36.out b7)
    have H47 := Lib.hid (own_below (own_below (own_below H4.out b5) b6) b7)
    have H27 := Lib.hid (own_below (own_below (own_below H24.out b5) b6) b7)
    have hgl : g.length ≤ 1048576 := HX.out
    have z7 := b07.size
    have z5 := b5.size
    have z6 := b6.size
    have z77 := b7.size
    clear H6 b5 b6 b7 H36 H34 H24 b06 b05
    go_wp2_with fail
    refine (markPointS_own _ _ _ g.length 1 _ H37.out (by omega) (by omega) (by omega)).mono ?_; rintro e w8 ⟨rfl, g8, o8⟩
    have hk8 : ¬ (1 : Int) + ((g.length * 7 : Nat) : Int) < 0 := by omega
    have H48 := Lib.hid (H47.out.kept g8 (own_apart_l H3.out H47.out (by omega)))
    have H28 := Lib.hid (H27.out.kept g8 (own_apart_r H2.out H37.out (by omega)))
    have b78 := own_grown_below H37.out g8 (by omega)
    have b08 := b07.trans (b78.mono z02)
    clear o8 g8 H37 H47 H27
    go_wp2_with fail
    refine (eqInsS_any _ _ x x _ (SlA.of_own H48.out (insR_len x) (insR_rows x)) (SlA.of_own H28.out (insR_len x) (insR_rows x))).mono ?_; rintro e w9 ⟨rfl, b9⟩
    rw [HE.out]
    have H49 := Lib.hid (own_below H48.out b9); have H29 := Lib.hid (own_below H28.out b9)
    have b09 := below_then b08 b9
    have z9 := b9.size
    have z78 := b78.size
    clear H48 H28 b08
    have hm1 : ¬ (1 : Int) + ((x.length * 4 : Nat) : Int) < 0 := by omega
    have hne : ((1 : Int) + ((x.length * 4 : Nat) : Int) != 1 + ((x.length * 4 : Nat) : Int)) = false := by simp
    go_wp2_with fail
    refine (markInsS_own _ _ _ x.length 1 _ H49.out (by omega) (by omega) (by omega)).mono ?_; rintro e w10 ⟨rfl, g10, o10⟩
    have b910 := own_grown_below H49.out g10 (by omega)
    have b010 := b09.trans (b910.mono (by omega))
    have H210 := Lib.hid (H29.out.kept g10 (own_apart_r H2.out H49.out (by omega)))
    have H410 := Lib.hid o10
    clear o10 g10 H49 H29
    go_wp2_with fail
    refine (heldInsS_marks _ _ x.length 1 _ H410.out (by omega) (by omega) (by omega)).mono ?_; rintro e w11 ⟨rfl, rfl⟩
    go_wp2_with fail
    refine (toPointS_own _ g _ (HU.out.below b010) HX.out).mono ?_; rintro e w11 ⟨v11, rfl, o11, b11⟩
    have b011 := below_then b010 b11
    have s11 := SlA.of_own o11 (by simp) (Pt.rows g)
    go_wp2_with fail
    refine (MakeOf_any _ g _ s11 (hp.below b011)).mono ?_; rintro e w12 ⟨v12, x', ok', rfl, hmk, o12, b12⟩
    obtain ⟨rfl, rfl⟩ := HM.out.one hmk
    have b012 := below_then b011 b12
    have H12 := Lib.hid o12
    have H212 := Lib.hid (own_below (own_below H210.out b11) b12); have H412 := Lib.hid (own_below (own_below H410.out b11) b12)
    clear hmk s11 o11 o12 b11 b12
    go_wp2_with fail
    refine (eqInsS_any _ _ x x _ (SlA.of_own H12.out (insR_len x) (insR_rows x)) (SlA.of_own H212.out (insR_len x) (insR_rows x))).mono ?_; rintro e w13 ⟨rfl, b13⟩
    rw [HE.out]
    have H413 := Lib.hid (own_below H412.out b13)
    have b013 := below_then b012 b13
    go_wp2_with fail
    refine (heldInsS_marks _ _ x.length 1 _ H413.out (by omega) (by omega) (by omega)).mono ?_; rintro e w14 ⟨rfl, rfl⟩
    go_wp2
    all_goals
      go_ret
      exact ⟨rfl, b013⟩
  · go_enter Tryd.func3, Tryd.ntmps3
    go_wp2_with fail
    refine (szPointS_no A n c 1048576 _ (by omega) (by omega) (by omega)).mono ?_; rintro e w1 ⟨rfl, rfl⟩
    go_wp2
    go_ret
    exact ⟨rfl, Below.refl _ _⟩

theorem laid_met (os : Os) : laidMet Tryd.prog Rows.fnExactMakeOfRow.laid ((laidWorld os Rows.fnExactMakeOfRow.laid).forCall (fun _ _ => 0) ⟨#[], #[.slice none 0 0], []⟩).memory :=
  laidMet_of_run' 8 (by kernel_rfl) (by kernel_rfl)
theorem reads (os : Os) {H : Type} (enc : TypeId × Value → H) : ∃ places, DataW.whole enc Tryd.prog ((laidWorld os Rows.fnExactMakeOfRow.laid).forCall (fun _ _ => 0) ⟨#[], #[.slice none 0 0], []⟩).memory Tryd.f3.params.toList Rows.fnExactMakeOfSpec.vars false #[.slice none 0 0].toList 8 = some ([.nil], [], places) :=
  ⟨[], by kernel_rfl⟩

set_option maxRecDepth 100000 in
theorem lifted (os : Os) (started : os.Started) (H : Type) (enc : TypeId × Value → H) (F : Stop.Interp) :
    ReturnsInHanded {} Tryd.checked os 3 .any ((OpenSpec.ofChange Rows.fnExactMakeOfSpec).preRow enc Tryd.prog Tryd.f3 Rows.fnExactMakeOfRow.domain false Rows.fnExactMakeOfRow.laid) (((OpenSpec.ofChange Rows.fnExactMakeOfSpec).at F).post enc Tryd.prog Tryd.f3 false true false false) := by
  obtain ⟨places, hx⟩ := reads os enc
  refine returnsInHanded_of_row (C := Tryd.checked) (s := OpenSpec.ofChange Rows.fnExactMakeOfSpec) own started (by kernel_rfl) Tryd.func3
    (witness_row_at (enc := enc) (C := Tryd.checked) false (laidWorld os Rows.fnExactMakeOfRow.laid) #[.slice none 0 0] rfl (by kernel_rfl) (by kernel_rfl) (by kernel_rfl)
      (OpenSpec.preRow_of_cond 8 hx (by kernel_rfl) (fun k hk => by cases hk) (by kernel_rfl) (laid_met os))) ?_
  intro W base args ds gs before hval hW _ _ _ hL _ _
  have hW' := hW
  obtain ⟨p, q, hA0, hV, rfl, hfz, hnd⟩ := hW
  have hA : DataW.TrodAll enc Tryd.prog W 0 (fun _ => true) true Tryd.f3.params.toList args.toList ds p := hA0
  rw [Tryd.params3] at hA
  obtain ⟨v0, vs0, d0, ds0, p0, q0, hargs, rfl, rfl, h0, r0⟩ := trodAll_cons hA
  obtain ⟨rfl, rfl, rfl⟩ := trodAll_nil r0
  obtain rfl : args = #[v0] := by cases args; simp_all
  obtain ⟨rfl, rfl⟩ := trodVars_none hV
  obtain ⟨fuel, hf⟩ := h0
  obtain ⟨a0, len, cap, rfl⟩ := okWide_slice Tryd.underlying22 (hval 0 22 v0 rfl rfl)
  obtain ⟨v, g, hc, hs⟩ := pts_arg hf
  obtain rfl : Value.slice a0 len cap = v := by simpa [Value.cells] using hc
  exact (walk _ g W (pow_of_laid hL (by kernel_rfl) (by kernel_rfl)) hs).mono fun e W' ⟨he, hb⟩ => ⟨_, he, law_post laidOut (by kernel_rfl) rfl rfl Tryd.underlying4 rfl hW' hb⟩

theorem said : Rows.FnExactMakeOfSaid :=
  OpenClaim.holds_of_cond 3 Tryd.f3 rfl rfl rfl rfl rfl rfl rfl ⟨rfl, rfl, rfl, rfl, rfl⟩ rfl rfl rfl rfl rfl (by kernel_rfl) Tryd.func3 (by kernel_rfl)
    (of_decide_eq_true (by kernel_rfl)) (by unfold Func.isWrapper; first | (rw [if_pos (by decide +kernel)]; kernel_rfl) | (rw [if_neg (by decide +kernel)]; exact ⟨rfl, rfl⟩))
    (fun os started H enc _ F => by rw [OpenClaim.pre_eq_preRow]; exact lifted os started H enc F)

theorem plain (f : FuncId) (fn : Func) (hf : Tryd.pinned.checked.prog.funcNamed "loop.example/gatelodge/laws.FnExactMakeOf" = some f) (hfn : Tryd.pinned.checked.prog.funcs[f]? = some fn) :
    false = Tryd.pinned.checked.prog.looks [] ∧ ∀ (j : Nat) t, fn.params[j]? = some t → Tryd.pinned.checked.prog.wantsStandIn t = false := by
  obtain rfl : f = 3 := Option.some.inj ((show Tryd.prog.funcNamed "loop.example/gatelodge/laws.FnExactMakeOf" = some 3 by kernel_rfl).symm.trans hf) |>.symm
  obtain rfl : fn = Tryd.f3 := (Option.some.inj (Tryd.func3.symm.trans hfn)).symm
  refine ⟨by kernel_rfl, fun j t ht => ?_⟩
  rw [Tryd.params3] at ht
  obtain rfl : t = 22 := by simpa using Array.mem_of_getElem? ht
  exact (show Tryd.prog.wantsStandIn 22 = false by kernel_rfl)

theorem card : Rows.FnExactMakeOfCardSaid :=
  Claim7.holds_tied_plain_at .later [] _ _ _ _ said (fun _ h => by cases h) (by kernel_rfl) (fun _ h => by cases h) fnExactMakeOf_row_tie rfl ⟨rfl, rfl⟩ (by kernel_rfl) rfl plain (by kernel_rfl)
end exactMakeOf
end Go.Proofs.YtoibocaaeimplaaDoor
