/- The program's PackWrite of a pack that is not whole. -/
import Derived.Test.YtlodcjpoamaemaaDoorPackI3
namespace Go.Proofs.YtlodcjpoamaemaaDoor
open Go.RowKit
set_option linter.unusedSimpArgs false
set_option linter.unusedVariables false

set_option maxHeartbeats 2000000 in
theorem PackWrite_no (key : List UInt8) (p : Pk) (w : World) (hr : p.r.length ≤ 4194304) (hc : p.c.length ≤ 4194304) (hw : ¬ p.whole) :
    Calls Tryd.prog 18 #[.string ⟨key.toArray⟩, .agg #[.int .i64 p.e, .string ⟨p.r.toArray⟩, .string ⟨p.c.toArray⟩]] w fun e w' => e = .returned (.string ⟨#[]⟩) ∧ Below w.heap.size w w' := by
  obtain ⟨e, r, c⟩ := p
  simp only at hr hc ⊢
  have HRM := Lib.hid (fun W => packLines_any r 900 W (by omega)); have HCM2 := Lib.hid (fun W => packLines_any c 2600 W (by omega))
  by_cases he1 : e < 1
  · go_enter Tryd.func18, Tryd.ntmps18
    go_wp2
    go_ret
    exact ⟨rfl, by go_grown⟩
  by_cases he2 : 99 < e
  · go_enter Tryd.func18, Tryd.ntmps18
    go_wp2
    go_ret
    exact ⟨rfl, by go_grown⟩
  cases hrb : wholeTB 900 r with
  | false =>
    have HB := Lib.hid hrb
    clear hrb hw
    go_enter Tryd.func18, Tryd.ntmps18
    go_wp2_with fail
    refine (HRM.out _).mono ?_; rintro e4 w4 ⟨rfl, rfl⟩
    rw [HB.out]
    go_wp2
    go_ret
    exact ⟨rfl, by go_grown⟩
  | true =>
    have HB := Lib.hid hrb
    have HC := Lib.hid (show wholeTB 2600 c = false by
      rw [← Bool.not_eq_true, wholeTB_iff]
      exact fun h => hw ⟨⟨by show 1 ≤ e; omega, by show e ≤ 99; omega⟩, wholeTB_iff.1 hrb, h⟩)
    clear hrb hw
    go_enter Tryd.func18, Tryd.ntmps18
    go_wp2_with fail
    refine (HRM.out _).mono ?_; rintro e4 w4 ⟨rfl, rfl⟩
    rw [HB.out]
    go_wp2_with fail
    refine (HCM2.out _).mono ?_; rintro e4 w4 ⟨rfl, rfl⟩
    rw [HC.out]
    go_wp2
    go_ret
    exact ⟨rfl, by go_grown⟩
end Go.Proofs.YtlodcjpoamaemaaDoor
