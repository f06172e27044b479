/- FnExactMakeCode's walk: it returns true for every policy, and nothing that was there is changed. -/
import Derived.Test.YtnlhnnidbppciaaGreatDoorMakeA
import Derived.Test.YtnlhnnidbppciaaGreatDoorLawA
import Derived.Test.YtnlhnnidbppciaaGreatDoorArgPolicy
import Derived.Test.YtnlhnnidbppciaaGreatDoorDoor
namespace Go.Proofs.YtnlhnnidbppciaaGreatDoor
open Go.RowKit Go.WideShapes Go.ChangeShapes Go.ChangeAt
set_option linter.unusedSimpArgs false
set_option linter.unusedVariables false

theorem own_apart_r {V R : World} {b1 b2 s1 s2 n1 n2 : Nat} {e1 e2 : TypeId} {v1 v2 : Value} {x1 x2 : List Value} (h1 : V.ownsRow b1 e1 s1 v1 n1 x1) (h2 : R.ownsRow b2 e2 s2 v2 n2 x2) (hb : V.heap.size ≤ b2) : v1.ownBlock = none ∨ v1.ownBlock ≠ v2.ownBlock := by
  cases h : v1.ownBlock with
  | none => exact .inl rfl
  | some k =>
    refine .inr fun e => ?_
    have a := (h1.lt k h).2
    have b := (h2.lt k e.symm).1
    omega
theorem OwnPol.form {w : World} {base : Nat} {p : Pol} {v : Value} (h : OwnPol w base p v) : ∃ A n c, v = .agg #[.slice A n c, .int .i64 p.els] := by
  obtain ⟨rv, css, rfl, ho, hr⟩ := h
  obtain ⟨A, n, c, rfl, _⟩ := SlA.of_own ho hr.1 hr.rows
  exact ⟨A, n, c, rfl⟩
theorem CodeOfP.len {p : Pol} {x : List In4} {ok : Bool} (h : CodeOfP p x ok) : x.length ≤ 600 := by
  obtain ⟨g, _, h⟩ := h
  exact h.len
theorem Cell2p.new (w : World) (t : TypeId) (x v : Value) : (w.alloc (.cells #[x, v] t)).cell? ⟨w.heap.size, 0, none⟩ = some x ∧ (w.alloc (.cells #[x, v] t)).cell? ⟨w.heap.size, 1, none⟩ = some v :=
  ⟨(Blk.new w t #[x, v]).cell 0, (Blk.new w t #[x, v]).cell 1⟩

namespace exactMakeCode
set_option maxRecDepth 100000 in
set_option maxHeartbeats 4000000 in
theorem walk (p : Pol) (u : Value) (w : World) (hp : Pow w) (hP : PolIs w p (.agg #[u, .int .i64 p.els])) :
    Calls Tryz.prog 3 #[.agg #[u, .int .i64 p.els]] w fun e w' => e = .returned (.bool true) ∧ Below w.heap.size w w' := by
  have HP := Lib.hid hP
  obtain ⟨rv, css, e0, ⟨A, n, c, rfl, hA⟩, hR⟩ := hP
  obtain rfl : u = .slice A n c := by simpa using e0
  clear hA hR e0
  have hb0 : Below w.heap.size w (w.alloc (.cells #[.slice A n c, .int .i64 p.els] 24)) := by go_grown
  obtain ⟨p0, p1⟩ := Cell2p.new w 24 (.slice A n c) (.int .i64 p.els)
  go_enter Tryz.func3, Tryz.ntmps3
  go_wp2_with fail
  refine (szPolicy_any p _ 1048576 _ (HP.out.below hb0) (by omega) (by omega)).mono ?_; rintro e w1 ⟨x0, rfl, hx0, b1⟩
  have b01 := below_then hb0 b1
  replace p0 := (b1.cell (p := ⟨w.heap.size, 0, none⟩) (by simp)).trans p0
  replace p1 := (b1.cell (p := ⟨w.heap.size, 1, none⟩) (by simp)).trans p1
  have lt1 : w.heap.size < w1.heap.size := by have := b1.size; simp at this; omega
  clear b1 hb0
  have HX0 := Lib.hid hx0; clear hx0
  by_cases hneg : x0 < 0
  · go_wp2
    go_ret
    exact ⟨rfl, b01⟩
  · have HN := Lib.hid (show p.rules.length ≤ 1048576 by have := HX0.out; omega)
    have HT := Lib.hid (show sumT p.rules ≤ 1048576 by have := HX0.out; omega)
    go_wp2_with fail
    refine (toPolicy_own p _ _ (HP.out.below b01) HN.out HT.out).mono ?_; rintro e w2 ⟨v2, rfl, o2, b2⟩
    obtain ⟨A2, n2, c2, rfl⟩ := o2.form
    go_wp2_with fail
    refine (gMakeCode_any p _ _ o2.is).mono ?_; rintro e w3 ⟨v3, x, ok, g3, rfl, hmk, hg3, o3, b3⟩
    have b13 := below_then b2 b3
    have b03 := below_then b01 b13
    replace p0 := (b13.cell (p := ⟨w.heap.size, 0, none⟩) lt1).trans p0
    replace p1 := (b13.cell (p := ⟨w.heap.size, 1, none⟩) lt1).trans p1
    have lt3 : w.heap.size < w3.heap.size := Nat.lt_of_lt_of_le lt1 b13.size
    have HM := Lib.hid hmk; have H3 := Lib.hid o3
    have hmx := hmk
    have HXL := Lib.hid (CodeOfP.len hmx)
    clear hmk hmx o2 o3 b2 b3 hg3
    go_wp2_with fail
    refine (toPolicy_own p _ _ (HP.out.below b03) HN.out HT.out).mono ?_; rintro e w4 ⟨v4, rfl, o4, b4⟩
    obtain ⟨A4, n4, c4, rfl⟩ := o4.form
    have b04 := below_then b03 b4
    replace p0 := (b4.cell (p := ⟨w.heap.size, 0, none⟩) lt3).trans p0
    replace p1 := (b4.cell (p := ⟨w.heap.size, 1, none⟩) lt3).trans p1
    have z4 := b4.size
    have lt4 : w.heap.size < w4.heap.size := Nat.lt_of_lt_of_le lt3 z4
    obtain ⟨q0, q1⟩ := Cell2p.new w4 31 (.slice A4 n4 c4) (.int .i64 p.els)
    have b45 : Below w4.heap.size w4 (w4.alloc (.cells #[.slice A4 n4 c4, .int .i64 p.els] 31)) := by go_grown
    have H4 := Lib.hid o4; clear o4
    have HB34 := Lib.hid b4; clear b4
    go_wp2_with fail
    refine (iMakeCode_any p _ _ (H4.out.is.below b45) (hp.below (below_then b04 b45))).mono ?_; rintro e w5 ⟨v5, x', ok', g5, rfl, hmk, hg5, o5, b5⟩
    obtain ⟨rfl, rfl⟩ := HM.out.one hmk
    have b46 := below_then b45 b5
    replace p0 := (b46.cell (p := ⟨w.heap.size, 0, none⟩) lt4).trans p0
    replace p1 := (b46.cell (p := ⟨w.heap.size, 1, none⟩) lt4).trans p1
    replace q0 := (b5.cell (p := ⟨w4.heap.size, 0, none⟩) (by simp)).trans q0
    replace q1 := (b5.cell (p := ⟨w4.heap.size, 1, none⟩) (by simp)).trans q1
    have b05 := below_then b04 b46
    have lt5 : w4.heap.size < w5.heap.size := by have := b5.size; simp at this; omega
    replace o5 := own_base (base' := w4.heap.size + 1) o5 (by simpa using hg5)
    have B35 := Lib.hid (below_then HB34.out b46)
    have H5 := Lib.hid o5; have H35 := Lib.hid (own_below H3.out B35.out)
    have he : codeEq x x = true := codeEq_iff.2 rfl
    have hoo : (ok != ok) = false := by simp
    have HE := Lib.hid he
    clear hmk hg5 o5 b5 b45 he
    go_wp2_with fail
    refine (eqInsS_any _ _ x x _ (SlA.of_own H5.out (insR_len x) (insR_rows x)) (SlA.of_own H35.out (insR_len x) (insR_rows x))).mono ?_; rintro e w6 ⟨rfl, b6⟩
    rw [HE.out]
    have lt5w : w.heap.size < w5.heap.size := Nat.lt_of_lt_of_le lt4 b46.size
    replace p0 := (b6.cell (p := ⟨w.heap.size, 0, none⟩) lt5w).trans p0
    replace p1 := (b6.cell (p := ⟨w.heap.size, 1, none⟩) lt5w).trans p1
    replace q0 := (b6.cell (p := ⟨w4.heap.size, 0, none⟩) lt5).trans q0
    replace q1 := (b6.cell (p := ⟨w4.heap.size, 1, none⟩) lt5).trans q1
    have b06 := below_then b05 b6
    have z6 := b6.size
    have lt6 : w4.heap.size < w6.heap.size := Nat.lt_of_lt_of_le lt5 z6
    have lt6w : w.heap.size < w6.heap.size := Nat.lt_of_lt_of_le lt5w z6
    have B46 := Lib.hid (below_then b46 b6)
    have B56 := Lib.hid b6
    clear b6 b46
    go_wp2_with fail
    go_region_law (first
      | (go_simp; go_at_call 14; refine (toPolicy_own p _ _ (HP.out.below b06.drew) HN.out HT.out).mono ?_; rintro e w7 ⟨v7, rfl, o7, b7⟩; obtain ⟨A7, n7, c7, rfl⟩ := o7.form; replace q0 := (b7.cell (p := ⟨w4.heap.size, 0, none⟩) lt6).trans q0; replace q1 := (b7.cell (p := ⟨w4.heap.size, 1, none⟩) lt6).trans q1)
      | (go_simp; go_at_call 17; refine (eqPolicy_same p _ _ _ (H4.out.is.below (below_then B46.out (below_then (Below.refl w6.heap.size w6).drew b7))) o7.is).mono ?_; rintro e w8 ⟨rfl, b8⟩))
    all_goals
      have b68 := below_then (below_then (Below.refl w6.heap.size w6).drew b7) b8
      have b08 := below_then b06 b68
      have B48 := Lib.hid (below_then B46.out b68)
      have B58 := Lib.hid (below_then B56.out b68)
      have B38 := Lib.hid (below_then HB34.out B48.out)
      replace p0 := (b68.cell (p := ⟨w.heap.size, 0, none⟩) lt6w).trans p0
      replace p1 := (b68.cell (p := ⟨w.heap.size, 1, none⟩) lt6w).trans p1
      replace q0 := (b8.cell (p := ⟨w4.heap.size, 0, none⟩) (Nat.lt_of_lt_of_le lt6 b7.size)).trans q0
      replace q1 := (b8.cell (p := ⟨w4.heap.size, 1, none⟩) (Nat.lt_of_lt_of_le lt6 b7.size)).trans q1
      clear o7 b7 b8 b68
      go_wp2_with fail
      refine (markPolicy_own w3.heap.size w4.heap.size p _ w4 _ H4.out (Nat.le_refl _) B48.out z4 HN.out HT.out).mono ?_; rintro e w9 ⟨z, rfl, hz, F⟩
      have hk : ¬ z < 0 := by omega
      have b09 := b08.trans (F.below.mono (Nat.le_of_lt lt3))
      have H59 := Lib.hid (F.own _ _ _ _ _ _ (Nat.le_succ _) (own_below H5.out B58.out))
      have B39 := Lib.hid (B38.out.trans F.below)
      have H39 := Lib.hid (own_below H3.out B39.out)
      have z39 := B39.out.size
      replace p0 := (F.below.cell (p := ⟨w.heap.size, 0, none⟩) lt3).trans p0
      replace p1 := (F.below.cell (p := ⟨w.heap.size, 1, none⟩) lt3).trans p1
      have g59 : w4.heap.size + 1 ≤ w9.heap.size := Nat.le_trans lt5 (Nat.le_trans B58.out.size F.below.size)
      clear F b08 q0 q1
      go_wp2_with fail
      refine (eqInsS_any _ _ x x _ (SlA.of_own H59.out (insR_len x) (insR_rows x)) (SlA.of_own H39.out (insR_len x) (insR_rows x))).mono ?_; rintro e w10 ⟨rfl, b10⟩
      rw [HE.out]
      have lt9w : w.heap.size < w9.heap.size := Nat.lt_of_lt_of_le lt3 z39
      replace p0 := (b10.cell (p := ⟨w.heap.size, 0, none⟩) lt9w).trans p0
      replace p1 := (b10.cell (p := ⟨w.heap.size, 1, none⟩) lt9w).trans p1
      have H510 := Lib.hid (own_below H59.out b10); have H310 := Lib.hid (own_below H39.out b10)
      have b010 := below_then b09 b10
      have g510 := Nat.le_trans g59 b10.size
      have hxl : x.length ≤ 1048576 := Nat.le_trans HXL.out (by omega)
      have hm1 : ¬ (1 : Int) + ((x.length * 4 : Nat) : Int) < 0 := by omega
      have hne : ((1 : Int) + ((x.length * 4 : Nat) : Int) != 1 + ((x.length * 4 : Nat) : Int)) = false := by simp
      clear b10 b09
      go_wp2_with fail
      refine (markInsS_own _ _ _ x.length 1 _ H510.out (by omega) (by omega) (by omega)).mono ?_; rintro e w11 ⟨rfl, g11, o11⟩
      have b1011 := own_grown_below H510.out g11 g510
      have b011 := b010.trans (b1011.mono (by omega))
      have H311 := Lib.hid (H310.out.kept g11 (own_apart_r H3.out H510.out (by omega)))
      have H511 := Lib.hid o11
      replace p0 := (b1011.cell (p := ⟨w.heap.size, 0, none⟩) (by show w.heap.size < w4.heap.size + 1; omega)).trans p0
      replace p1 := (b1011.cell (p := ⟨w.heap.size, 1, none⟩) (by show w.heap.size < w4.heap.size + 1; omega)).trans p1
      have lt11 : w.heap.size < w11.heap.size := by have := b1011.size; omega
      clear o11 g11 b1011 b010
      go_wp2_with fail
      refine (heldInsS_marks _ _ x.length 1 _ H511.out (by omega) (by omega) (by omega)).mono ?_; rintro e w12 ⟨rfl, rfl⟩
      go_wp2_with fail
      refine (toPolicy_own p _ _ (HP.out.below b011) HN.out HT.out).mono ?_; rintro e w12 ⟨v12, rfl, o12, b12⟩
      obtain ⟨A12, n12, c12, rfl⟩ := o12.form
      have b012 := below_then b011 b12
      go_wp2_with fail
      refine (iMakeCode_any p _ _ o12.is (hp.below b012)).mono ?_; rintro e w13 ⟨v13, x', ok', g13, rfl, hmk, hg13, o13, b13⟩
      obtain ⟨rfl, rfl⟩ := HM.out.one hmk
      have b013 := below_then b012 b13
      have H13 := Lib.hid o13
      have H313 := Lib.hid (own_below (own_below H311.out b12) b13); have H513 := Lib.hid (own_below (own_below H511.out b12) b13)
      clear hmk o12 o13 b12 b13 p0 p1
      go_wp2_with fail
      refine (eqInsS_any _ _ x x _ (SlA.of_own H13.out (insR_len x) (insR_rows x)) (SlA.of_own H313.out (insR_len x) (insR_rows x))).mono ?_; rintro e w14 ⟨rfl, b14⟩
      rw [HE.out]
      have H514 := Lib.hid (own_below H513.out b14)
      have b014 := below_then b013 b14
      go_wp2_with fail
      refine (heldInsS_marks _ _ x.length 1 _ H514.out (by omega) (by omega) (by omega)).mono ?_; rintro e w15 ⟨rfl, rfl⟩
      go_wp2
      all_goals
        go_ret
        exact ⟨rfl, b014⟩
end exactMakeCode
end Go.Proofs.YtnlhnnidbppciaaGreatDoor
