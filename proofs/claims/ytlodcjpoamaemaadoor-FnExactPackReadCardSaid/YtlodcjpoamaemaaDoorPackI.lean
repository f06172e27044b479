/- The program's packs' texts: packLines. -/
import Derived.Test.YtlodcjpoamaemaaDoorPackP
import Derived.Test.YtlodcjpoamaemaaDoorShelf
namespace Go.Proofs.YtlodcjpoamaemaaDoor
open Go.RowKit
set_option linter.unusedSimpArgs false
set_option linter.unusedVariables false

noncomputable def wholeTB (most : Nat) (l : List UInt8) : Bool := @decide (wholeT most l) (Classical.propDecidable _)
theorem wholeTB_iff {most : Nat} {l : List UInt8} : wholeTB most l = true ↔ wholeT most l := by simp [wholeTB]
theorem suffix10 (l : List UInt8) : Lib.hasSuffix l [10] = true ↔ l.getLast? = some 10 := by
  unfold Lib.hasSuffix
  rw [List.isSuffixOf_iff_suffix, List.getLast?_eq_some_iff]
  exact ⟨fun ⟨t, h⟩ => ⟨t, h.symm⟩, fun ⟨t, h⟩ => ⟨t, h.symm⟩⟩

set_option maxHeartbeats 1000000 in
theorem packLines_any (l : List UInt8) (most : Nat) (w : World) (hl : l.length ≤ 9223372036854775807) :
    Calls Tryd.prog 28 #[.string ⟨l.toArray⟩, .int .i64 most] w fun e w' => e = .returned (.bool (wholeTB most l)) ∧ w' = w := by
  by_cases h : l.length ≤ most
  · have hi : (l.length : Int) ≤ most := by omega
    have HW := Lib.hid (show Lib.hasSuffix l [10] = wholeTB most l by rw [Bool.eq_iff_iff, suffix10, wholeTB_iff]; exact ⟨fun q => ⟨h, q⟩, fun q => q.2⟩)
    clear h
    go_enter Tryd.func28, Tryd.ntmps28
    go_wp2_with fail
    refine (Go.Proofs.Tryd.strings_HasSuffix ⟨l.toArray⟩ ⟨#[10]⟩ _ (by simp [ByteArray.size]; omega)).mono ?_; rintro e w' ⟨rfl, rfl⟩
    rw [show Lib.hasSuffix (⟨l.toArray⟩ : ByteArray).data.toList (⟨#[10]⟩ : ByteArray).data.toList = wholeTB most l from HW.out]
    go_wp2
    go_ret
    exact ⟨rfl, rfl⟩
  · have hi : ¬ (l.length : Int) ≤ most := by omega
    have HW := Lib.hid (show wholeTB most l = false by rw [← Bool.not_eq_true, wholeTB_iff]; exact fun q => h q.1)
    clear h
    go_enter Tryd.func28, Tryd.ntmps28
    go_wp2
    go_ret
    exact ⟨by rw [HW.out]; rfl, rfl⟩
end Go.Proofs.YtlodcjpoamaemaaDoor
