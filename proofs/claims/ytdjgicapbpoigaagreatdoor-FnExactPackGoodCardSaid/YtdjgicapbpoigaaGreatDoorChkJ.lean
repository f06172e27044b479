/- impl's check: CheckCode, CheckSteps. -/
import Derived.Test.YtdjgicapbpoigaaGreatDoorChkIB
import Derived.Test.YtdjgicapbpoigaaGreatDoorPolK
import Derived.Test.YtdjgicapbpoigaaGreatDoorLinesI
namespace Go.Proofs.YtdjgicapbpoigaaGreatDoor
open Go.RowKit
set_option linter.unusedSimpArgs false
set_option linter.unusedVariables false

set_option maxHeartbeats 2000000 in
theorem iCheckCode_any (cv : Value) (g : List In4) (p : Pol) (v : Value) (w : World) (hv : Sl w 4 cv (insR g)) (hP : PolIs w p v) (hpw : Pow w) :
    Calls Tryz.prog 18 #[cv, v] w (CheckCodePost g p w) := by
  have HV := Lib.hid hv; have HP := Lib.hid hP
  obtain ⟨rv, css, rfl, ⟨A, n, c, rfl, hSA⟩, hR⟩ := hP
  have hb0 : Below w.heap.size w (w.alloc (.cells #[.slice A n c, .int .i64 p.els] 35)) := by go_grown
  have B0 := Blk.new w 35 #[.slice A n c, .int .i64 p.els]
  have HB := Lib.hid B0
  have HPW := Lib.hid hpw
  obtain ⟨VA, vn, vc, rfl, hVA⟩ := hv
  clear hSA hR hVA B0 hpw
  go_enter Tryz.func18, Tryz.ntmps18
  go_wp2_with fail
  refine (CodeOk_any _ g _ (HV.out.below hb0) (HPW.out.below hb0)).mono ?_; rintro e w1 ⟨rfl, hb1⟩
  have hb01 := below_then hb0 hb1
  have hB1 := HB.out.below hb1 (by simp)
  have z1 := hb1.size
  simp only [World.size_alloc] at z1
  have hlt1 : w.heap.size < w1.heap.size := by omega
  have e0 := (show _ = some (Value.slice A n c) from hB1.cell 0); have e1 := (show _ = some (Value.int .i64 p.els) from hB1.cell 1)
  have HB1 := Lib.hid hB1
  clear hB1 hb1
  cases hc : codeOkB g with
  | false =>
    have HO := Lib.hid (show ChkOut g p 0 false from .inr ⟨(fun h => by rw [codeOkB_iff.2 h.1] at hc; cases hc), rfl, rfl⟩)
    clear hc
    go_wp2
    go_ret
    exact ⟨0, false, rfl, HO.out, hb01⟩
  | true =>
    have HC := Lib.hid (codeOkB_iff.1 hc)
    clear hc
    go_wp2_with fail
    refine (iPolicyOk_any p _ _ (HP.out.below hb01) (HPW.out.below hb01)).mono ?_; rintro e w2 ⟨rfl, hb2⟩
    have hb02 := below_then hb01 hb2
    have hB2 := HB1.out.below hb2 hlt1
    have e0 := (show _ = some (Value.slice A n c) from hB2.cell 0); have e1 := (show _ = some (Value.int .i64 p.els) from hB2.cell 1)
    clear hB2 hb2 HB1
    cases hp : polOkB p with
    | false =>
      have HO := Lib.hid (show ChkOut g p 0 false from .inr ⟨(fun h => by rw [h.2] at hp; cases hp), rfl, rfl⟩)
      clear hp
      go_wp2
      go_ret
      exact ⟨0, false, rfl, HO.out, hb02⟩
    | true =>
      have HPO := Lib.hid hp
      clear hp
      go_wp2_with fail
      refine (check_any _ g p _ _ (HV.out.below hb02) (HP.out.below hb02) HC.out HPO.out).mono ?_; rintro e w3 ⟨cg, s, b, cv', rv', rfl, hck, hbk, hb3⟩
      have HO := Lib.hid (show ChkOut g p s b from .inl ⟨HC.out, HPO.out, hck⟩)
      have q3 := (show _ = some (Value.int .i64 (s : Int)) from hbk.cell 3); have q4 := (show _ = some (Value.bool (!b)) from hbk.cell 4)
      have hb03 := below_then hb02 hb3
      clear hck hbk hb3
      cases b
      all_goals
        go_wp2
        go_ret
        exact ⟨s, _, rfl, HO.out, hb03⟩

end Go.Proofs.YtdjgicapbpoigaaGreatDoor

