/- FnExactCallNear's walk: it returns true for every policy, and nothing that was there is changed. -/
import Derived.Test.YtkiacbfpnidjlaaDoorSpecC
import Derived.Test.YtkiacbfpnidjlaaDoorLawCalls
import Derived.Test.YtkiacbfpnidjlaaDoorLawA
import Derived.Test.YtkiacbfpnidjlaaDoorArgPolicy
namespace Go.Proofs.YtkiacbfpnidjlaaDoor
open Go.RowKit Go.WideShapes Go.ChangeShapes Go.ChangeAt
set_option linter.unusedSimpArgs false
set_option linter.unusedVariables false

theorem OwnPol.form {w : World} {base : Nat} {p : Pol} {v : Value} (h : OwnPol w base p v) : ∃ A n c, v = .agg #[.slice A n c, .int .i64 p.els] := by
  obtain ⟨rv, css, rfl, ho, hr⟩ := h
  obtain ⟨A, n, c, rfl, _⟩ := SlA.of_own ho hr.1 hr.rows
  exact ⟨A, n, c, rfl⟩
theorem Cell2p.new (w : World) (t : TypeId) (x v : Value) : (w.alloc (.cells #[x, v] t)).cell? ⟨w.heap.size, 0, none⟩ = some x ∧ (w.alloc (.cells #[x, v] t)).cell? ⟨w.heap.size, 1, none⟩ = some v :=
  ⟨(Blk.new w t #[x, v]).cell 0, (Blk.new w t #[x, v]).cell 1⟩
def NearL (p : Pol) (xs : List NItem) : Prop := (polOkB p = true → NearIs (nearWs p.rules) 600 (xs.map NItem.c)) ∧ (polOkB p = false → xs = [])
theorem NearL.one {p : Pol} {xs ys : List NItem} (h : NearL p xs) (h' : NearL p ys) : xs.map NItem.c = ys.map NItem.c := by
  cases e : polOkB p with
  | true => exact (h.1 e).one (h'.1 e)
  | false => rw [h.2 e, h'.2 e]
theorem NearL.len {p : Pol} {xs : List NItem} (h : NearL p xs) : xs.length ≤ 600 := by
  cases e : polOkB p with
  | true =>
    obtain ⟨m, h1, h2, h3⟩ := h.1 e
    have hm : m ≤ 600 := by rcases h3 with h3 | ⟨h3, _⟩ <;> omega
    rcases m with _ | m
    · have := congrArg List.length h1; simp [callsTo] at this; simp [this]
    · obtain ⟨us, hus⟩ := Option.ne_none_iff_exists'.1 (h2 m (Nat.lt_succ_self _))
      have h4 := (callsTo_len hus).2
      rw [← h1, List.length_map] at h4
      omega
  | false => rw [h.2 e]; simp
theorem CallsRow.fr {lo hi : Nat} {w w' : World} {base : Nat} {v : Value} {xs : List NItem} (h : CallsRow w base v xs) (F : MkFr lo hi w w') (hb : hi ≤ base) : CallsRow w' base v xs :=
  ⟨F.own _ _ _ _ _ _ hb h.row, fun x hx => ⟨(h.args x hx).1, F.own _ _ _ _ _ _ hb (h.args x hx).2⟩, h.up⟩

namespace exactCallNear
set_option maxRecDepth 100000 in
set_option maxHeartbeats 4000000 in
theorem walk (p : Pol) (u : Value) (w : World) (hp : Pow w) (hP : PolIs w p (.agg #[u, .int .i64 p.els])) :
    Calls Tryd.prog 3 #[.agg #[u, .int .i64 p.els]] w fun e w' => e = .returned (.bool true) ∧ Below w.heap.size w w' := by
  have HP := Lib.hid hP
  obtain ⟨rv, css, e0, ⟨A, n, c, rfl, hA⟩, hR⟩ := hP
  obtain rfl : u = .slice A n c := by simpa using e0
  clear hA hR e0
  have hb0 : Below w.heap.size w (w.alloc (.cells #[.slice A n c, .int .i64 p.els] 24)) := by go_grown
  obtain ⟨p0, p1⟩ := Cell2p.new w 24 (.slice A n c) (.int .i64 p.els)
  go_enter Tryd.func3, Tryd.ntmps3
  go_wp2_with fail
  refine (szPolicy_any p _ 1048576 _ (HP.out.below hb0) (by omega) (by omega)).mono ?_; rintro e w1 ⟨x0, rfl, hx0, b1⟩
  have b01 := below_then hb0 b1
  replace p0 := (b1.cell (p := ⟨w.heap.size, 0, none⟩) (by simp)).trans p0
  replace p1 := (b1.cell (p := ⟨w.heap.size, 1, none⟩) (by simp)).trans p1
  have lt1 : w.heap.size < w1.heap.size := by have := b1.size; simp at this; omega
  clear b1 hb0
  have HX0 := Lib.hid hx0; clear hx0
  by_cases hneg : x0 < 0
  · go_wp2
    go_ret
    exact ⟨rfl, b01⟩
  · have HN := Lib.hid (show p.rules.length ≤ 1048576 by have := HX0.out; omega)
    have HT := Lib.hid (show sumT p.rules ≤ 1048576 by have := HX0.out; omega)
    go_wp2_with fail
    refine (toPolicy_own p _ _ (HP.out.below b01) HN.out HT.out).mono ?_; rintro e w2 ⟨v2, rfl, o2, b2⟩
    obtain ⟨A2, n2, c2, rfl⟩ := o2.form
    go_wp2_with fail
    refine (sCallNear_any p _ _ o2.is).mono ?_; rintro e w3 ⟨v3, xs, rfl, o3, hx3a, hx3b, b3⟩
    have b13 := below_then b2 b3
    have b03 := below_then b01 b13
    replace p0 := (b13.cell (p := ⟨w.heap.size, 0, none⟩) lt1).trans p0
    replace p1 := (b13.cell (p := ⟨w.heap.size, 1, none⟩) lt1).trans p1
    have lt3 : w.heap.size < w3.heap.size := Nat.lt_of_lt_of_le lt1 b13.size
    have HL := Lib.hid (show NearL p xs from ⟨hx3a, hx3b⟩); have H3 := Lib.hid o3
    obtain ⟨A3, c3, rfl⟩ := own_slV o3.row
    clear hx3a hx3b o2 o3 b2 b3
    go_wp2_with fail
    refine (toPolicy_own p _ _ (HP.out.below b03) HN.out HT.out).mono ?_; rintro e w4 ⟨v4, rfl, o4, b4⟩
    obtain ⟨A4, n4, c4, rfl⟩ := o4.form
    have b04 := below_then b03 b4
    replace p0 := (b4.cell (p := ⟨w.heap.size, 0, none⟩) lt3).trans p0
    replace p1 := (b4.cell (p := ⟨w.heap.size, 1, none⟩) lt3).trans p1
    have z4 := b4.size
    have lt4 : w.heap.size < w4.heap.size := Nat.lt_of_lt_of_le lt3 z4
    obtain ⟨q0, q1⟩ := Cell2p.new w4 30 (.slice A4 n4 c4) (.int .i64 p.els)
    have b45 : Below w4.heap.size w4 (w4.alloc (.cells #[.slice A4 n4 c4, .int .i64 p.els] 30)) := by go_grown
    have H4 := Lib.hid o4; clear o4
    have HB34 := Lib.hid b4; clear b4
    go_wp2_with fail
    refine (iCallNear_any p _ _ (H4.out.is.below b45) (hp.below (below_then b04 b45))).mono ?_; rintro e w5 ⟨v5, ys, rfl, o5, hx5a, hx5b, b5⟩
    have HL5 := Lib.hid (show NearL p ys from ⟨hx5a, hx5b⟩)
    have HEQ := Lib.hid (HL5.out.one HL.out)
    have hyl := HL5.out.len
    obtain ⟨A5, c5, rfl⟩ := own_slV o5.row
    have b46 := below_then b45 b5
    replace p0 := (b46.cell (p := ⟨w.heap.size, 0, none⟩) lt4).trans p0
    replace p1 := (b46.cell (p := ⟨w.heap.size, 1, none⟩) lt4).trans p1
    replace q0 := (b5.cell (p := ⟨w4.heap.size, 0, none⟩) (by simp)).trans q0
    replace q1 := (b5.cell (p := ⟨w4.heap.size, 1, none⟩) (by simp)).trans q1
    have b05 := below_then b04 b46
    have lt5 : w4.heap.size < w5.heap.size := by have := b5.size; simp at this; omega
    replace o5 := o5.base_ (base' := w4.heap.size + 1) (by simp)
    have B35 := Lib.hid (below_then HB34.out b46)
    have H5 := Lib.hid o5; have H35 := Lib.hid (H3.out.below B35.out)
    clear hx5a hx5b o5 b5 b45
    go_wp2_with fail
    refine (eqCallS_same _ _ ys xs _ H5.out.sl H35.out.sl HEQ.out).mono ?_; rintro e w6 ⟨rfl, b6⟩
    have lt5w : w.heap.size < w5.heap.size := Nat.lt_of_lt_of_le lt4 b46.size
    replace p0 := (b6.cell (p := ⟨w.heap.size, 0, none⟩) lt5w).trans p0
    replace p1 := (b6.cell (p := ⟨w.heap.size, 1, none⟩) lt5w).trans p1
    replace q0 := (b6.cell (p := ⟨w4.heap.size, 0, none⟩) lt5).trans q0
    replace q1 := (b6.cell (p := ⟨w4.heap.size, 1, none⟩) lt5).trans q1
    have b06 := below_then b05 b6
    have z6 := b6.size
    have lt6 : w4.heap.size < w6.heap.size := Nat.lt_of_lt_of_le lt5 z6
    have lt6w : w.heap.size < w6.heap.size := Nat.lt_of_lt_of_le lt5w z6
    have B46 := Lib.hid (below_then b46 b6)
    have B56 := Lib.hid b6
    clear b6 b46
    go_wp2_with fail
    go_region_law (first
      | (go_simp; go_at_call 8; refine (toPolicy_own p _ _ (HP.out.below b06.drew) HN.out HT.out).mono ?_; rintro e w7 ⟨v7, rfl, o7, b7⟩; obtain ⟨A7, n7, c7, rfl⟩ := o7.form; replace q0 := (b7.cell (p := ⟨w4.heap.size, 0, none⟩) lt6).trans q0; replace q1 := (b7.cell (p := ⟨w4.heap.size, 1, none⟩) lt6).trans q1)
      | (go_simp; go_at_call 11; refine (eqPolicy_same p _ _ _ (H4.out.is.below (below_then B46.out (below_then (Below.refl w6.heap.size w6).drew b7))) o7.is).mono ?_; rintro e w8 ⟨rfl, b8⟩))
    all_goals
      have b68 := below_then (below_then (Below.refl w6.heap.size w6).drew b7) b8
      have b08 := below_then b06 b68
      have B48 := Lib.hid (below_then B46.out b68)
      have B58 := Lib.hid (below_then B56.out b68)
      have B38 := Lib.hid (below_then HB34.out B48.out)
      replace p0 := (b68.cell (p := ⟨w.heap.size, 0, none⟩) lt6w).trans p0
      replace p1 := (b68.cell (p := ⟨w.heap.size, 1, none⟩) lt6w).trans p1
      replace q0 := (b8.cell (p := ⟨w4.heap.size, 0, none⟩) (Nat.lt_of_lt_of_le lt6 b7.size)).trans q0
      replace q1 := (b8.cell (p := ⟨w4.heap.size, 1, none⟩) (Nat.lt_of_lt_of_le lt6 b7.size)).trans q1
      clear o7 b7 b8 b68
      go_wp2_with fail
      refine (markPolicy_own w3.heap.size w4.heap.size p _ w4 _ H4.out (Nat.le_refl _) B48.out z4 HN.out HT.out).mono ?_; rintro e w9 ⟨z, rfl, hz, F⟩
      have hk : ¬ z < 0 := by omega
      have b09 := b08.trans (F.below.mono (Nat.le_of_lt lt3))
      have H59 := Lib.hid ((H5.out.below B58.out).fr F (Nat.le_succ _))
      have B39 := Lib.hid (B38.out.trans F.below)
      have H39 := Lib.hid (H3.out.below B39.out)
      have z39 := B39.out.size
      replace p0 := (F.below.cell (p := ⟨w.heap.size, 0, none⟩) lt3).trans p0
      replace p1 := (F.below.cell (p := ⟨w.heap.size, 1, none⟩) lt3).trans p1
      have g59 : w4.heap.size + 1 ≤ w9.heap.size := Nat.le_trans lt5 (Nat.le_trans B58.out.size F.below.size)
      clear F b08 q0 q1
      go_wp2_with fail
      refine (eqCallS_same _ _ ys xs _ H59.out.sl H39.out.sl HEQ.out).mono ?_; rintro e w10 ⟨rfl, b10⟩
      have lt9w : w.heap.size < w9.heap.size := Nat.lt_of_lt_of_le lt3 z39
      replace p0 := (b10.cell (p := ⟨w.heap.size, 0, none⟩) lt9w).trans p0
      replace p1 := (b10.cell (p := ⟨w.heap.size, 1, none⟩) lt9w).trans p1
      have H510 := Lib.hid (H59.out.below b10); have B310 := Lib.hid (B39.out.trans (b10.mono z39))
      have b010 := below_then b09 b10
      have g510 := Nat.le_trans g59 b10.size
      have hm1 : ¬ (1 : Int) + 5 * ((ys.length : Nat) : Int) < 0 := by omega
      have hne : ((1 : Int) + 5 * ((ys.length : Nat) : Int) != 1 + 5 * ((ys.length : Nat) : Int)) = false := by simp
      clear b10 b09
      go_wp2_with fail
      refine (markCallS_own (w4.heap.size + 1) _ ys 1 _ H510.out g510 (by omega) (by omega) (by omega)).mono ?_; rintro e w11 ⟨rfl, o11, b11⟩
      have b011 := b010.trans (b11.mono (by omega))
      have B311 := Lib.hid (B310.out.trans (b11.mono (by omega)))
      have H511 := Lib.hid o11
      replace p0 := (b11.cell (p := ⟨w.heap.size, 0, none⟩) (by show w.heap.size < w4.heap.size + 1; omega)).trans p0
      replace p1 := (b11.cell (p := ⟨w.heap.size, 1, none⟩) (by show w.heap.size < w4.heap.size + 1; omega)).trans p1
      have lt11 : w.heap.size < w11.heap.size := by have := b11.size; omega
      clear o11 b11 b010
      go_wp2_with fail
      refine (heldCallS_marks _ _ ys 1 _ H511.out (by omega) (by omega) (by omega)).mono ?_; rintro e w12 ⟨rfl, rfl⟩
      go_wp2_with fail
      refine (toPolicy_own p _ _ (HP.out.below b011) HN.out HT.out).mono ?_; rintro e w12 ⟨v12, rfl, o12, b12⟩
      obtain ⟨A12, n12, c12, rfl⟩ := o12.form
      have b012 := below_then b011 b12
      go_wp2_with fail
      refine (iCallNear_any p _ _ o12.is (hp.below b012)).mono ?_; rintro e w13 ⟨v13, zs, rfl, o13, hx13a, hx13b, b13⟩
      have HEQ2 := Lib.hid (NearL.one (show NearL p zs from ⟨hx13a, hx13b⟩) HL.out)
      obtain ⟨A13, c13, rfl⟩ := own_slV o13.row
      have b013 := below_then b012 b13
      have H13 := Lib.hid o13
      have H313 := Lib.hid (H3.out.below ((B311.out.trans (b12.mono (by have := B311.out.size; omega))).trans (b13.mono (by have := B311.out.size; have := b12.size; omega)))); have H513 := Lib.hid ((H511.out.below b12).below b13)
      clear o12 o13 b12 b13 p0 p1 hx13a hx13b
      go_wp2_with fail
      refine (eqCallS_same _ _ zs xs _ H13.out.sl H313.out.sl HEQ2.out).mono ?_; rintro e w14 ⟨rfl, b14⟩
      have H514 := Lib.hid (H513.out.below b14)
      have b014 := below_then b013 b14
      go_wp2_with fail
      refine (heldCallS_marks _ _ ys 1 _ H514.out (by omega) (by omega) (by omega)).mono ?_; rintro e w15 ⟨rfl, rfl⟩
      go_wp2
      all_goals
        go_ret
        exact ⟨rfl, b014⟩
end exactCallNear
end Go.Proofs.YtkiacbfpnidjlaaDoor
