/- The law that what is made is found right, walked: FnCheckMade returns true. -/
import Derived.Test.YteflnpejhhkchaaGreatDoorDrawPolW
import Derived.Test.YteflnpejhhkchaaGreatDoorSemA
import Derived.Test.YteflnpejhhkchaaGreatDoorChkJ
import Derived.Test.YteflnpejhhkchaaGreatDoorMakeA
import Derived.Test.YteflnpejhhkchaaGreatDoorWgCode
namespace Go.Proofs.YteflnpejhhkchaaGreatDoor
open Go.RowKit
set_option linter.unusedSimpArgs false
set_option linter.unusedVariables false

theorem CodeOfP.ok {p : Pol} {x : List In4} (h : CodeOfP p x true) : polOkB p = true := by
  obtain ⟨g, hg, hm⟩ := h
  rcases hg with ⟨_, rfl⟩ | ⟨h, _⟩
  · rcases hm with ⟨_, _, e⟩ | ⟨hgo, _⟩
    · cases e
    · have := hgo.1.1; simp at this
  · exact h
theorem codeEq_self (g : List In4) : codeEq g g = true := codeEq_iff.2 rfl
theorem PolPost.out {w : World} {e : Ending} {w' : World} (h : PolPost w e w') : ∃ (po : Pol) (A : Option Addr) (n c : Nat), e = .returned (.agg #[.slice A n c, .int .i64 po.els]) ∧ PolIs w' po (.agg #[.slice A n c, .int .i64 po.els]) ∧ Below w.heap.size w w' := by
  obtain ⟨po, v, B, rfl, hp, _, hb, _⟩ := h
  obtain ⟨A, n, c, rfl⟩ := hp.form
  exact ⟨po, A, n, c, rfl, hp.is, hb⟩

set_option maxRecDepth 100000 in
set_option maxHeartbeats 4000000 in
theorem checkMade_law (v : Value) (ys : List Int) (w : World) (hs : Sl w 1 v (u8s ys)) (hb : ∀ y ∈ ys, 0 ≤ y ∧ y ≤ 255) (hpw : Pow w) :
    Calls Tryz.prog 5 #[v] w fun e w' => e = .returned (.bool true) ∧ Below w.heap.size w w' := by
  have HS := Lib.hid hs; have HB := Lib.hid hb; have HPW := Lib.hid hpw
  obtain ⟨A0, n0, c0, rfl, hA0⟩ := hs
  have hc0 := hA0.cap
  have hm0 := hA0.max
  unfold maxLen at hm0
  clear hA0 hb hpw
  by_cases hlen : n0 ≤ 1048576
  case neg =>
    go_enter Tryz.func5, Tryz.ntmps5
    go_wp2
    go_ret
    exact ⟨rfl, Below.refl _ _⟩
  go_enter Tryz.func5, Tryz.ntmps5
  go_wp2_with fail
  refine (DrawMakeCode_any _ ys w HS.out HB.out).mono ?_; intro e w1 hp1
  obtain ⟨po, A, n, c, rfl, hpo, hb1⟩ := hp1.out
  obtain ⟨w2, hw2⟩ : ∃ W, W = w1.alloc (.cells #[.slice A n c, .int .i64 po.els] 26) := ⟨_, rfl⟩
  have K2 : Hid (Blk w2 w1.heap.size 26 #[.slice A n c, .int .i64 po.els]) := by rw [hw2]; exact Lib.hid (Blk.new _ _ _)
  have HB2 : Hid (Below w.heap.size w w2) := by rw [hw2]; exact Lib.hid (hb1.alloc hb1.size _)
  have HP2 : Hid (PolIs w2 po (.agg #[.slice A n c, .int .i64 po.els])) := by rw [hw2]; exact Lib.hid (hpo.below (by go_grown))
  have HW2 := Lib.hid hw2
  clear hpo hb1 hw2 hp1 HS HB
  go_wp2_with fail
  rw [← HW2.out]
  refine (iMakeCode_any po _ w2 HP2.out (HPW.out.below HB2.out)).mono ?_; rintro e w3 ⟨v3, x, ok, b3, rfl, hx, hb3, ho3, hbl3⟩
  have HX := Lib.hid hx
  have HB3 := Lib.hid (below_then HB2.out hbl3); have HP3 := Lib.hid (HP2.out.below hbl3); have K3 := Lib.hid (K2.out.below hbl3 K2.out.lt)
  have S3 := Lib.hid (SlA.of_own ho3 (insR_len x) (insR_rows x))
  have y0 := (show _ = some (Value.slice A n c) from K3.out.cell 0); have y1 := (show _ = some (Value.int .i64 po.els) from K3.out.cell 1)
  clear hx hb3 ho3 hbl3 HW2 HB2 HP2
  go_wp2_with fail
  refine (gMakeCode_any po _ w3 HP3.out).mono ?_; rintro e w4 ⟨v4, x', ok', b4, rfl, hx', hb4, ho4, hbl4⟩
  obtain ⟨rfl, rfl⟩ := HX.out.one hx'
  have HB4 := Lib.hid (below_then HB3.out hbl4); have HP4 := Lib.hid (HP3.out.below hbl4); have K4 := Lib.hid (K3.out.below hbl4 K3.out.lt)
  have S34 := Lib.hid (S3.out.below hbl4); have S4 := Lib.hid (SlA.of_own ho4 (insR_len x) (insR_rows x))
  have hne : (ok != ok) = false := by simp
  have heq : (ok == ok) = true := by simp
  clear hx' hb4 ho4 hbl4 y0 y1
  go_wp2_with fail
  refine (wgCode_any v3 v4 x x w4 S34.out S4.out).mono ?_; rintro e w5 ⟨rfl, b5⟩
  rw [codeEq_self]
  have HB5 := Lib.hid (below_then HB4.out b5); have HP5 := Lib.hid (HP4.out.below b5); have K5 := Lib.hid (K4.out.below b5 K4.out.lt)
  have S35 := Lib.hid (S34.out.below b5); have S45 := Lib.hid (S4.out.below b5)
  clear b5
  cases ok with
  | false =>
    go_wp2_with fail
    refine (wgCode_any v3 v4 x x w5 S35.out S45.out).mono ?_; rintro e w6 ⟨rfl, b6⟩
    rw [codeEq_self]
    have HB6 := Lib.hid (below_then HB5.out b6)
    clear b6
    go_wp2
    go_ret
    exact ⟨rfl, HB6.out⟩
  | true =>
    have y0 := (show _ = some (Value.slice A n c) from K5.out.cell 0); have y1 := (show _ = some (Value.int .i64 po.els) from K5.out.cell 1)
    go_wp2_with fail
    refine (iCheckSteps_any v3 x po _ w5 S35.out HP5.out (HPW.out.below HB5.out)).mono ?_; rintro e w6 ⟨s, b, rfl, hck, b6⟩
    have HCK := Lib.hid hck
    have HB6 := Lib.hid (below_then HB5.out b6); have HP6 := Lib.hid (HP5.out.below b6); have K6 := Lib.hid (K5.out.below b6 K5.out.lt)
    have S36 := Lib.hid (S35.out.below b6)
    clear b6 hck y0 y1
    have y0 := (show _ = some (Value.slice A n c) from K6.out.cell 0); have y1 := (show _ = some (Value.int .i64 po.els) from K6.out.cell 1)
    go_wp2_with fail
    refine (sCheckSteps_any v3 x po _ w6 S36.out HP6.out).mono ?_; rintro e w7 ⟨s', b', rfl, hck, b7⟩
    obtain ⟨rfl, rfl⟩ := HCK.out.one hck
    have HB7 := Lib.hid (below_then HB6.out b7); have HP7 := Lib.hid (HP6.out.below b7); have K7 := Lib.hid (K6.out.below b7 K6.out.lt)
    have S37 := Lib.hid (S36.out.below b7)
    clear b7 hck y0 y1
    have y0 := (show _ = some (Value.slice A n c) from K7.out.cell 0); have y1 := (show _ = some (Value.int .i64 po.els) from K7.out.cell 1)
    have hss : ((s : Int) == (s : Int)) = true := by simp
    go_wp2_with fail
    refine (iCheckCode_any v3 x po _ w7 S37.out HP7.out (HPW.out.below HB7.out)).mono ?_; rintro e w8 ⟨s', b', rfl, hck, b8⟩
    obtain ⟨rfl, rfl⟩ := HCK.out.one hck
    have HB8 := Lib.hid (below_then HB7.out b8)
    have hbs : b = decide (s ≤ 6000) := by
      have hok := HX.out.ok
      rcases HCK.out with ⟨_, _, h⟩ | ⟨h, _, _⟩
      · exact h.made HX.out hok
      · refine absurd ⟨?_, hok⟩ h
        obtain ⟨g, _, hm⟩ := HX.out
        rcases hm with ⟨_, _, e⟩ | ⟨_, y, _, ⟨hc, rfl, _⟩ | ⟨_, _, e⟩⟩
        · cases e
        · exact hc
        · cases e
    clear b8 hck y0 y1 hss
    by_cases h6 : s ≤ 6000
    · have hbt : b = true := by rw [hbs]; simpa using h6
      have h6i : (s : Int) ≤ 6000 := by omega
      subst hbt
      clear hbs h6
      go_wp2
      go_ret
      exact ⟨rfl, HB8.out⟩
    · have hbt : b = false := by rw [hbs]; simpa using h6
      have h6i : decide ((s : Int) ≤ 6000) = false := by simp; omega
      subst hbt
      clear hbs h6
      go_wp2
      go_ret
      exact ⟨rfl, HB8.out⟩
end Go.Proofs.YteflnpejhhkchaaGreatDoor
