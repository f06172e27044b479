/- The law that a check ends, and soon, walked: FnCheckEnds returns true. -/
import Derived.Test.YteflnpejhhkchaaGreatDoorDrawChk
import Derived.Test.YteflnpejhhkchaaGreatDoorSemA
import Derived.Test.YteflnpejhhkchaaGreatDoorChkJ
namespace Go.Proofs.YteflnpejhhkchaaGreatDoor
open Go.RowKit
set_option linter.unusedSimpArgs false
set_option linter.unusedVariables false

set_option maxRecDepth 100000 in
set_option maxHeartbeats 4000000 in
theorem checkEnds_law (v : Value) (ys : List Int) (w : World) (hs : Sl w 1 v (u8s ys)) (hb : ∀ y ∈ ys, 0 ≤ y ∧ y ≤ 255) (hpw : Pow w) :
    Calls Tryz.prog 3 #[v] w fun e w' => e = .returned (.bool true) ∧ Below w.heap.size w w' := by
  have HS := Lib.hid hs; have HB := Lib.hid hb; have HPW := Lib.hid hpw
  obtain ⟨A0, n0, c0, rfl, hA0⟩ := hs
  have hc0 := hA0.cap
  have hm0 := hA0.max
  unfold maxLen at hm0
  clear hA0 hb hpw
  by_cases hlen : n0 ≤ 1048576
  case neg =>
    go_enter Tryz.func3, Tryz.ntmps3
    go_wp2
    go_ret
    exact ⟨rfl, Below.refl _ _⟩
  go_enter Tryz.func3, Tryz.ntmps3
  go_wp2_with fail
  refine (DrawCheckSteps_any _ ys w HS.out HB.out).mono ?_; rintro e w1 ⟨x, po, u, A, n, c, B, rfl, hx, hxl, hpo, hb1⟩
  obtain ⟨w2, hw2⟩ : ∃ W, W = w1.alloc (.cells #[.slice A n c, .int .i64 po.els] 26) := ⟨_, rfl⟩
  obtain ⟨h4, hh4⟩ : ∃ h, h = w1.heap.size := ⟨_, rfl⟩
  have K2 : Hid (Blk w2 h4 26 #[.slice A n c, .int .i64 po.els]) := by rw [hw2, hh4]; exact Lib.hid (Blk.new _ _ _)
  have HB2 : Hid (Below w.heap.size w w2) := by rw [hw2]; exact Lib.hid (hb1.alloc hb1.size _)
  have HP2 : Hid (PolIs w2 po (.agg #[.slice A n c, .int .i64 po.els])) := by rw [hw2]; exact Lib.hid (hpo.is.below (by go_grown))
  have S2 : Hid (Sl w2 4 u (insR x)) := by rw [hw2]; exact Lib.hid (hx.below (by go_grown))
  have HW2 := Lib.hid hw2; have HH4 := Lib.hid hh4
  clear hpo hb1 hw2 hx HS HB hh4
  go_wp2_with fail
  rw [← HW2.out, ← HH4.out]
  have y0 := (show _ = some (Value.slice A n c) from K2.out.cell 0); have y1 := (show _ = some (Value.int .i64 po.els) from K2.out.cell 1)
  clear HW2 HH4
  go_wp2_with fail
  refine (iCheckSteps_any u x po _ w2 S2.out HP2.out (HPW.out.below HB2.out)).mono ?_; rintro e w3 ⟨s, b, rfl, hck, b3⟩
  have HCK := Lib.hid hck
  have HB3 := Lib.hid (below_then HB2.out b3); have HP3 := Lib.hid (HP2.out.below b3); have K3 := Lib.hid (K2.out.below b3 K2.out.lt); have S3 := Lib.hid (S2.out.below b3)
  clear b3 hck y0 y1 K2 HB2 HP2 S2
  have hss : ((s : Int) != (s : Int)) = false := by simp
  have hbb : (b != b) = false := by simp
  go_wp2_with fail
  refine wp_region_fixed (fun w' => Below w3.heap.size w3 w') (by kernel_rfl) (by kernel_rfl) (Below.refl _ _).drew ?_
  iterate 14
    apply wpFx_step
    case h =>
      intro w9 hw
      have H9 := Lib.hid hw
      have HP9 := Lib.hid (HP3.out.below hw); have K9 := Lib.hid (K3.out.below hw K3.out.lt); have S9 := Lib.hid (S3.out.below hw)
      have HPW9 := Lib.hid (HPW.out.below (below_then HB3.out hw))
      have y0 := (show _ = some (Value.slice A n c) from K9.out.cell 0); have y1 := (show _ = some (Value.int .i64 po.els) from K9.out.cell 1)
      clear hw
      go_wp2_with (first
        | (go_at_call 9; refine (sCheckSteps_any u x po _ _ S9.out HP9.out).mono ?_; rintro e w4 ⟨s', b', rfl, hck, hbb4⟩; obtain ⟨rfl, rfl⟩ := HCK.out.one hck; replace H9 := Lib.hid (below_then H9.out hbb4); clear hbb4 hck)
        | (go_at_call 10; refine (iCheckCode_any u x po _ _ S9.out HP9.out HPW9.out).mono ?_; rintro e w4 ⟨s', b', rfl, hck, hbb4⟩; obtain ⟨rfl, rfl⟩ := HCK.out.one hck; replace H9 := Lib.hid (below_then H9.out hbb4); clear hbb4 hck)
        | (go_at_call 11; refine (sCheckCode_any u x po _ _ S9.out HP9.out).mono ?_; rintro e w4 ⟨s', b', rfl, hck, hbb4⟩; obtain ⟨rfl, rfl⟩ := HCK.out.one hck; replace H9 := Lib.hid (below_then H9.out hbb4); clear hbb4 hck))
      exact ⟨rfl, rfl, H9.out⟩
  refine wpFx_end (fun w9 hw => ?_)
  have HB9 := Lib.hid (below_then HB3.out hw); have HP9 := Lib.hid (HP3.out.below hw); have K9 := Lib.hid (K3.out.below hw K3.out.lt); have S9 := Lib.hid (S3.out.below hw)
  clear hw
  go_wp2_with fail
  refine (sCodeOk_any u x w9 S9.out).mono ?_; rintro e w10 ⟨rfl, b10⟩
  have HB10 := Lib.hid (below_then HB9.out b10); have HP10 := Lib.hid (HP9.out.below b10); have K10 := Lib.hid (K9.out.below b10 K9.out.lt); have S10 := Lib.hid (S9.out.below b10)
  clear b10 HP9 K9 S9 HB9 hss hbb
  have y0 := (show _ = some (Value.slice A n c) from K10.out.cell 0); have y1 := (show _ = some (Value.int .i64 po.els) from K10.out.cell 1)
  rcases HCK.out with ⟨hco, hpk, hci⟩ | ⟨hno, hs0, hb0⟩
  · have hcb : codeOkB x = true := codeOkB_iff.2 hco
    obtain ⟨e1, e2, e3⟩ := hci.ends
    have e0 : ((s : Int) == 0) = false := by simp; omega
    have e4 : (s : Int) ≤ 12000 := by omega
    rw [hcb]
    clear hcb hco hci
    have HPK := Lib.hid hpk; have HE3 := Lib.hid e3
    clear hpk e1 e2 e3
    go_wp2_with fail
    refine (PolicyOk_any po _ w10 HP10.out).mono ?_; rintro e w11 ⟨rfl, b11⟩
    rw [HPK.out]
    have HB11 := Lib.hid (below_then HB10.out b11); have HP11 := Lib.hid (HP10.out.below b11); have K11 := Lib.hid (K10.out.below b11 K10.out.lt); have S11 := Lib.hid (S10.out.below b11)
    clear b11 y0 y1
    have y0 := (show _ = some (Value.slice A n c) from K11.out.cell 0); have y1 := (show _ = some (Value.int .i64 po.els) from K11.out.cell 1)
    by_cases h6 : (s : Int) ≤ 6000
    · go_wp2
      go_ret
      exact ⟨rfl, HB11.out⟩
    · have h6d : decide ((s : Int) ≤ 6000) = false := by simpa using h6
      have hbf : b = false := by
        cases b with
        | false => rfl
        | true => have := HE3.out rfl; omega
      go_wp2_with fail
      refine (iCheckCode_any u x po _ w11 S11.out HP11.out (HPW.out.below HB11.out)).mono ?_; rintro e w12 ⟨s', b', rfl, hck, b12⟩
      obtain ⟨rfl, rfl⟩ := HCK.out.one hck
      subst hbf
      have HB12 := Lib.hid (below_then HB11.out b12)
      clear b12 hck y0 y1
      go_wp2
      go_ret
      exact ⟨rfl, HB12.out⟩
  · subst hs0 hb0
    have e0 : (((0 : Nat) : Int) == 0) = true := rfl
    have e4 : ((0 : Nat) : Int) ≤ 12000 := by omega
    have e5 : ((0 : Nat) : Int) ≤ 6000 := by omega
    cases hcb : codeOkB x with
    | false =>
      clear hcb hno
      go_wp2
      go_ret
      exact ⟨rfl, HB10.out⟩
    | true =>
      have hpk : polOkB po = false := by
        cases h : polOkB po with
        | false => rfl
        | true => exact absurd ⟨codeOkB_iff.1 hcb, h⟩ hno
      have HPK := Lib.hid hpk
      clear hpk hno hcb
      go_wp2_with fail
      refine (PolicyOk_any po _ w10 HP10.out).mono ?_; rintro e w11 ⟨rfl, b11⟩
      rw [HPK.out]
      have HB11 := Lib.hid (below_then HB10.out b11)
      clear b11 y0 y1
      go_wp2
      go_ret
      exact ⟨rfl, HB11.out⟩
end Go.Proofs.YteflnpejhhkchaaGreatDoor
