/- impl's programs: CodeWrite, CodeOk. -/
import Derived.Test.YtoibocaaeimplaaDoorLines
namespace Go.Proofs.YtoibocaaeimplaaDoor
open Go.RowKit
set_option linter.unusedSimpArgs false
set_option linter.unusedVariables false

set_option maxHeartbeats 1000000 in
theorem CodeWrite_any (v : Value) (g : List In4) (w : World) (hs : Sl w 4 v (insR g)) (hp : Pow w) :
    Calls Tryd.prog 18 #[v] w fun e w' => e = .returned (.string ⟨(codeOut g).toArray⟩) ∧ Below w.heap.size w w' := by
  have hs0 := hs
  obtain ⟨A, n, c, rfl, -⟩ := hs
  by_cases hw : waysOk g
  · have hwb := waysB_iff.2 hw
    have HW := Lib.hid hw; clear hw
    by_cases hl : (codeText g).length ≤ 2600
    · have ho : codeOk g := ⟨HW.out, hl⟩
      have HO := Lib.hid ho.out; clear ho
      go_enter Tryd.func18, Tryd.ntmps18
      go_wp2_with (first
        | (go_at_call 41; refine (codeWays_any _ g _ hs0).mono ?_; rintro e w1 ⟨rfl, hb1⟩; rw [hwb])
        | (go_at_call 42; refine (codeLines_any _ g _ (hs0.below hb1) (hp.below hb1) HW.out.words HW.out.2.1).mono ?_; rintro e w2 ⟨rfl, hb2⟩))
      go_ret
      exact ⟨by rw [HO.out]; rfl, below_then hb1 hb2⟩
    · have HO := Lib.hid (codeOk.no (fun h : codeOk g => hl h.2))
      have hl2 : 2600 < (codeText g).length := by omega
      clear hl
      go_enter Tryd.func18, Tryd.ntmps18
      go_wp2_with (first
        | (go_at_call 41; refine (codeWays_any _ g _ hs0).mono ?_; rintro e w1 ⟨rfl, hb1⟩; rw [hwb])
        | (go_at_call 42; refine (codeLines_any _ g _ (hs0.below hb1) (hp.below hb1) HW.out.words HW.out.2.1).mono ?_; rintro e w2 ⟨rfl, hb2⟩))
      go_ret
      exact ⟨by rw [HO.out]; rfl, below_then hb1 hb2⟩
  · have HO := Lib.hid (codeOk.no (fun h : codeOk g => hw h.1))
    have hwb := waysB_no hw
    clear hw
    go_enter Tryd.func18, Tryd.ntmps18
    go_wp2_with (go_at_call 41; refine (codeWays_any _ g _ hs0).mono ?_; rintro e w1 ⟨rfl, hb1⟩; rw [hwb])
    go_ret
    exact ⟨by rw [HO.out]; rfl, hb1⟩

theorem CodeOk_any (v : Value) (g : List In4) (w : World) (hs : Sl w 4 v (insR g)) (hp : Pow w) :
    Calls Tryd.prog 16 #[v] w fun e w' => e = .returned (.bool (codeOkB g)) ∧ Below w.heap.size w w' := by
  have hs0 := hs
  obtain ⟨A, n, c, rfl, -⟩ := hs
  by_cases ho : codeOk g
  · have hne : ((codeOut g) == []) = false := by
      have := codeOut_empty (g := g)
      cases h : codeOut g with
      | nil => exact absurd ho (this.1 h)
      | cons a b => rfl
    have hib : (codeOut g).isEmpty = false := by
      cases h : codeOut g with
      | nil => rw [h] at hne; cases hne
      | cons a b => rfl
    have HOK := Lib.hid (codeOkB_iff.2 ho); clear ho
    go_enter Tryd.func16, Tryd.ntmps16
    go_wp2_with (go_at_call 18; refine (CodeWrite_any _ g _ hs0 hp).mono ?_; rintro e w1 ⟨rfl, hb1⟩)
    go_ret
    exact ⟨ret_bool HOK.out.symm, hb1⟩
  · have hem := codeOk.no ho
    have HOK := Lib.hid (codeOkB_no ho); clear ho
    go_enter Tryd.func16, Tryd.ntmps16
    go_wp2_with (go_at_call 18; refine (CodeWrite_any _ g _ hs0 hp).mono ?_; rintro e w1 ⟨rfl, hb1⟩; rw [hem])
    go_ret
    exact ⟨ret_bool HOK.out.symm, hb1⟩
end Go.Proofs.YtoibocaaeimplaaDoor
