/- FnExactCheckSteps's walk: it returns true for every program and every policy, and nothing that was there is changed. -/
import Derived.Test.YtnlhnnidbppciaaGreatDoorChkJ
import Derived.Test.YtnlhnnidbppciaaGreatDoorLawA
import Derived.Test.YtnlhnnidbppciaaGreatDoorLawInsTo
import Derived.Test.YtnlhnnidbppciaaGreatDoorArgPolicy
import Derived.Test.YtnlhnnidbppciaaGreatDoorDoor
namespace Go.Proofs.YtnlhnnidbppciaaGreatDoor
open Go.RowKit Go.WideShapes Go.ChangeShapes Go.ChangeAt
set_option linter.unusedSimpArgs false
set_option linter.unusedVariables false

theorem OwnPol.form2 {w : World} {base : Nat} {p : Pol} {v : Value} (h : OwnPol w base p v) : ∃ A n c, v = .agg #[.slice A n c, .int .i64 p.els] := by
  obtain ⟨rv, css, rfl, ho, hr⟩ := h
  obtain ⟨A, n, c, rfl, _⟩ := SlA.of_own ho hr.1 hr.rows
  exact ⟨A, n, c, rfl⟩
theorem Cell2q.new (w : World) (t : TypeId) (x v : Value) : (w.alloc (.cells #[x, v] t)).cell? ⟨w.heap.size, 0, none⟩ = some x ∧ (w.alloc (.cells #[x, v] t)).cell? ⟨w.heap.size, 1, none⟩ = some v :=
  ⟨(Blk.new w t #[x, v]).cell 0, (Blk.new w t #[x, v]).cell 1⟩

namespace exactCheckSteps
set_option maxRecDepth 100000 in
set_option maxHeartbeats 4000000 in
theorem walk (g : List In4) (cv : Value) (p : Pol) (u : Value) (w : World) (hpw : Pow w) (hv : Sl w 4 cv (insR g)) (hP : PolIs w p (.agg #[u, .int .i64 p.els])) :
    Calls Tryz.prog 6 #[cv, .agg #[u, .int .i64 p.els]] w fun e w' => e = .returned (.bool true) ∧ Below w.heap.size w w' := by
  have HP := Lib.hid hP; have HV := Lib.hid hv; have HPW := Lib.hid hpw
  obtain ⟨rv, css, e0, ⟨A, n, c, rfl, hA⟩, hR⟩ := hP
  obtain rfl : u = .slice A n c := by simpa using e0
  clear hA hR e0 hpw
  obtain ⟨VA, vn, vc, rfl, hVA⟩ := hv
  have hgn : g.length = vn := by have := hVA.len; rwa [insR_len] at this
  have hvc := hVA.cap
  have hvm := hVA.max
  unfold maxLen at hvm
  have HGN := Lib.hid hgn
  clear hVA
  have hb0 : Below w.heap.size w (w.alloc (.cells #[.slice A n c, .int .i64 p.els] 24)) := by go_grown
  obtain ⟨p0, p1⟩ := Cell2q.new w 24 (.slice A n c) (.int .i64 p.els)
  by_cases hn : vn ≤ 1048576
  · have hgl : g.length ≤ 1048576 := by omega
    have HGL := Lib.hid hgl
    have hd0 : ¬ (1048576 : Int) - vn < 0 := by omega
    clear hgn hgl
    go_enter Tryz.func6, Tryz.ntmps6
    go_wp2_with fail
    refine (szInsS_ok VA vn vc 1048576 _ (by omega) (by omega)).mono ?_; rintro e w1 ⟨rfl, rfl⟩
    go_wp2_with fail
    refine (szPolicy_any p _ ((1048576 : Int) - vn) _ (HP.out.below hb0) (by omega) (by omega)).mono ?_; rintro e w1 ⟨x0, rfl, hx0, b1⟩
    have b01 := below_then hb0 b1
    replace p0 := (b1.cell (p := ⟨w.heap.size, 0, none⟩) (by simp)).trans p0
    replace p1 := (b1.cell (p := ⟨w.heap.size, 1, none⟩) (by simp)).trans p1
    have lt1 : w.heap.size < w1.heap.size := by have := b1.size; simp at this; omega
    clear b1 hb0
    have HX0 := Lib.hid hx0; clear hx0
    by_cases hneg : x0 < 0
    · go_wp2
      go_ret
      exact ⟨rfl, b01⟩
    · have HN := Lib.hid (show p.rules.length ≤ 1048576 by have := HX0.out; omega)
      have HT := Lib.hid (show sumT p.rules ≤ 1048576 by have := HX0.out; omega)
      go_wp2_with fail
      go_region_law (first
        | (go_simp; go_at_call 28; refine (toInsS_any _ g _ (HV.out.below (below_then b01 (by go_grown))) HGL.out).mono ?_; rintro e w2 ⟨v2, rfl, o2, b2⟩; have b12 := below_then (show Below w1.heap.size w1 _ by go_grown) b2; have p02 := (b12.cell (p := ⟨w.heap.size, 0, none⟩) lt1).trans p0; have p12 := (b12.cell (p := ⟨w.heap.size, 1, none⟩) lt1).trans p1; have O2 := Lib.hid o2; clear o2 b2)
        | (go_simp; go_at_call 14; refine (toPolicy_own p _ _ (HP.out.below (below_then b01 b12)) HN.out HT.out).mono ?_; rintro e w3 ⟨v3, rfl, o3, b3⟩; obtain ⟨A3, n3, c3, rfl⟩ := o3.form2; have O3 := Lib.hid o3; clear o3)
        | (go_simp; go_at_call 30; refine (sCheckSteps_any _ g p _ _ (SlA.of_own (own_below O2.out b3) (insR_len g) (insR_rows g)) O3.out.is).mono ?_; rintro e w4 ⟨s0, b0, rfl, hck, b4⟩; have HCK := Lib.hid hck; clear hck))
      all_goals
        have b14 := below_then b12 (below_then b3 b4)
        have b04 := below_then b01 b14
        have p04 := (b14.cell (p := ⟨w.heap.size, 0, none⟩) lt1).trans p0; have p14 := (b14.cell (p := ⟨w.heap.size, 1, none⟩) lt1).trans p1
        have lt4 : w.heap.size < w4.heap.size := Nat.lt_of_lt_of_le lt1 b14.size
        clear p0 p1 p02 p12 b3 b4 b12 b14
        go_wp2_with fail
        refine (toInsS_any _ g _ (HV.out.below b04) HGL.out).mono ?_; rintro e w5 ⟨v5, rfl, o5, b5⟩
        have b05 := below_then b04 b5
        have p05 := (b5.cell (p := ⟨w.heap.size, 0, none⟩) lt4).trans p04; have p15 := (b5.cell (p := ⟨w.heap.size, 1, none⟩) lt4).trans p14
        have lt5 : w.heap.size < w5.heap.size := Nat.lt_of_lt_of_le lt4 b5.size
        have S5 := Lib.hid (SlA.of_own o5 (insR_len g) (insR_rows g))
        clear o5 b5 p04 p14
        go_wp2_with fail
        refine (toPolicy_own p _ _ (HP.out.below b05) HN.out HT.out).mono ?_; rintro e w6 ⟨v6, rfl, o6, b6⟩
        obtain ⟨A6, n6, c6, rfl⟩ := o6.form2
        have b06 := below_then b05 b6
        have p06 := (b6.cell (p := ⟨w.heap.size, 0, none⟩) lt5).trans p05; have p16 := (b6.cell (p := ⟨w.heap.size, 1, none⟩) lt5).trans p15
        have lt6 : w.heap.size < w6.heap.size := Nat.lt_of_lt_of_le lt5 b6.size
        obtain ⟨q0, q1⟩ := Cell2q.new w6 31 (.slice A6 n6 c6) (.int .i64 p.els)
        have b67 : Below w6.heap.size w6 (w6.alloc (.cells #[.slice A6 n6 c6, .int .i64 p.els] 31)) := by go_grown
        have HP6 := Lib.hid o6.is; have S6 := Lib.hid (S5.out.below b6)
        clear o6 b6 p05 p15
        go_wp2_with fail
        refine (iCheckSteps_any _ g p _ _ (S6.out.below b67) (HP6.out.below b67) (HPW.out.below (below_then b06 b67))).mono ?_; rintro e w7 ⟨s1, b1, rfl, hck1, b7⟩
        obtain ⟨rfl, rfl⟩ := HCK.out.one hck1
        have hcmp : ((s0 : Int) != (s0 : Int)) = false := by simp
        have b67' := below_then b67 b7
        have b07 := below_then b06 b67'
        have p07 := (b67'.cell (p := ⟨w.heap.size, 0, none⟩) lt6).trans p06; have p17 := (b67'.cell (p := ⟨w.heap.size, 1, none⟩) lt6).trans p16
        replace q0 := (b7.cell (p := ⟨w6.heap.size, 0, none⟩) (by simp)).trans q0; replace q1 := (b7.cell (p := ⟨w6.heap.size, 1, none⟩) (by simp)).trans q1
        have lt7 : w6.heap.size < w7.heap.size := by have := b7.size; simp at this; omega
        have lt7w : w.heap.size < w7.heap.size := Nat.lt_of_lt_of_le lt6 b67'.size
        have HP7 := Lib.hid (HP6.out.below b67'); have S7 := Lib.hid (S6.out.below b67')
        clear hck1 b7 b67 b67' p06 p16
        go_wp2_with fail
        refine (toInsS_any _ g _ (HV.out.below b07) HGL.out).mono ?_; rintro e w8 ⟨v8, rfl, o8, b8⟩
        have he : codeEq g g = true := codeEq_iff.2 rfl
        have HE := Lib.hid he
        clear he
        go_wp2_with fail
        refine (eqInsS_any _ _ g g _ (S7.out.below b8) (SlA.of_own o8 (insR_len g) (insR_rows g))).mono ?_; rintro e w9 ⟨rfl, b9⟩
        rw [HE.out]
        have b79 := below_then b8 b9
        have b09 := below_then b07 b79
        have p09 := (b79.cell (p := ⟨w.heap.size, 0, none⟩) lt7w).trans p07; have p19 := (b79.cell (p := ⟨w.heap.size, 1, none⟩) lt7w).trans p17
        replace q0 := (b79.cell (p := ⟨w6.heap.size, 0, none⟩) lt7).trans q0; replace q1 := (b79.cell (p := ⟨w6.heap.size, 1, none⟩) lt7).trans q1
        have lt9 : w6.heap.size < w9.heap.size := Nat.lt_of_lt_of_le lt7 b79.size
        have HP9 := Lib.hid (HP7.out.below b79)
        clear o8 b8 b9 b79 p07 p17
        go_wp2_with fail
        go_region_law (first
          | (go_simp; go_at_call 14; refine (toPolicy_own p _ _ (HP.out.below b09.drew) HN.out HT.out).mono ?_; rintro e w10 ⟨v10, rfl, o10, b10⟩; obtain ⟨A10, n10, c10, rfl⟩ := o10.form2; replace q0 := (b10.cell (p := ⟨w6.heap.size, 0, none⟩) lt9).trans q0; replace q1 := (b10.cell (p := ⟨w6.heap.size, 1, none⟩) lt9).trans q1)
          | (go_simp; go_at_call 17; refine (eqPolicy_same p _ _ _ (HP9.out.below (below_then (Below.refl w9.heap.size w9).drew b10)) o10.is).mono ?_; rintro e w11 ⟨rfl, b11⟩))
        all_goals
          have b011 := below_then b09 (below_then (below_then (Below.refl w9.heap.size w9).drew b10) b11)
          clear o10 b10 b11
          go_wp2
          go_ret
          exact ⟨rfl, b011⟩
  · go_enter Tryz.func6, Tryz.ntmps6
    go_wp2_with fail
    refine (szInsS_no VA vn vc 1048576 _ (by omega) (by omega) (by omega)).mono ?_; rintro e w1 ⟨rfl, rfl⟩
    go_wp2
    go_ret
    exact ⟨rfl, hb0⟩
end exactCheckSteps
end Go.Proofs.YtnlhnnidbppciaaGreatDoor
