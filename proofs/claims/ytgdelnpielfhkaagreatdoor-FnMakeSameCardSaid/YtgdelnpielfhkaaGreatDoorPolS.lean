/- spec's policies: l2TestOk, l2Word, l2Line, l2Write, PolicyOk. -/
import Derived.Test.YtgdelnpielfhkaaGreatDoorTxt
namespace Go.Proofs.YtgdelnpielfhkaaGreatDoor
open Go.RowKit
set_option linter.unusedSimpArgs false
set_option linter.unusedVariables false

set_option maxHeartbeats 2000000 in
theorem l2TestOk_any (t : Ts) (w : World) :
    Calls Tryz.prog 17 #[.agg #[.int .i64 t.field, .int .i64 t.mask, .int .i64 t.op, .int .i64 t.value]] w fun e w' => e = .returned (.bool (testOkB t)) ∧ Below w.heap.size w w' := by
  obtain ⟨f, m, o, v⟩ := t
  cases h1 : inB f 1 4 <;> cases h2 : inB m 1 4294967295 <;> cases h3 : inB v 0 4294967295 <;> cases h4 : inB o 1 3 <;> cases h5 : (o == 1)
  all_goals
    have H := Lib.hid (show testOkB ⟨f, m, o, v⟩ = (inB f 1 4 && inB m 1 4294967295 && inB v 0 4294967295 && inB o 1 3 && (if (o == 1) = true then bits .and .i64 v m == v else m == 4294967295)) from rfl)
    have E1 := Lib.hid h1; have E2 := Lib.hid h2; have E3 := Lib.hid h3; have E4 := Lib.hid h4; have E5 := Lib.hid h5
    go_enter Tryz.func17, Tryz.ntmps17
    go_wp2_with (go_at_call 16; refine (l1In_any _ _ _ _).mono ?_; rintro e w' ⟨rfl, rfl⟩)
    go_ret
    refine ⟨ret_bool ?_, by go_grown⟩
    rw [H.out, E1.out, E2.out, E3.out, E4.out, E5.out]
    simp [wrap64]

theorem l2Word_any (n : Int) (w : World) (h : 0 ≤ n ∧ n ≤ 4) :
    Calls Tryz.prog 47 #[.int .i64 n] w fun e w' => e = .returned (.string ⟨(verdNm n).toArray⟩) ∧ Below w.heap.size w w' := by
  obtain rfl | rfl | rfl | rfl | rfl : n = 0 ∨ n = 1 ∨ n = 2 ∨ n = 3 ∨ n = 4 := by omega
  all_goals
    go_enter Tryz.func47, Tryz.ntmps47
    go_wp2
    go_ret
    exact ⟨rfl, by go_grown⟩

theorem s32 : (⟨#[32]⟩ : ByteArray) = ⟨([32] : List UInt8).toArray⟩ := rfl
theorem s10 : (⟨#[10]⟩ : ByteArray) = ⟨([10] : List UInt8).toArray⟩ := rfl
theorem s45 : (⟨#[45]⟩ : ByteArray) = ⟨([45] : List UInt8).toArray⟩ := rfl
theorem s38 : (⟨#[38]⟩ : ByteArray) = ⟨([38] : List UInt8).toArray⟩ := rfl
theorem s3297 : (⟨#[32, 97]⟩ : ByteArray) = ⟨([32, 97] : List UInt8).toArray⟩ := rfl
theorem sElse : (⟨#[101, 108, 115, 101, 32]⟩ : ByteArray) = ⟨([101, 108, 115, 101, 32] : List UInt8).toArray⟩ := rfl
theorem str_eq {a b : List UInt8} (h : a = b) : Value.string ⟨a.toArray⟩ = .string ⟨b.toArray⟩ := by rw [h]
/-- The signs as they lie. -/
theorem sign_at {w : World} {g : Nat} {t : TypeId} (h : Blk w g t #[.string ⟨#[]⟩, .string ⟨#[61]⟩, .string ⟨#[60]⟩, .string ⟨#[62]⟩]) {n : Nat} (hn : n ≤ 3) : w.cell? ⟨g, n, none⟩ = some (.string ⟨(signNm (n : Int)).toArray⟩) := by
  rw [h.cell n]
  obtain rfl | rfl | rfl | rfl : n = 0 ∨ n = 1 ∨ n = 2 ∨ n = 3 := by omega
  all_goals rfl
end Go.Proofs.YtgdelnpielfhkaaGreatDoor
