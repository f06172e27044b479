/- The laws' helpers on books: eqTold, eqLine, of two that are the same. -/
import Derived.Test.YtaieopdfkapgdaaDoorLawLine2
namespace Go.Proofs.YtaieopdfkapgdaaDoor
open Go.RowKit
set_option linter.unusedSimpArgs false
set_option linter.unusedVariables false

set_option maxHeartbeats 1000000 in
theorem eqTold_same (gt ep m vd : Int) (u v : Value) (g : List Int) (w : World) (hu : Sl w 1 u (ints g)) (hv : Sl w 1 v (ints g)) :
    Calls Tryd.prog 24 #[.agg #[.int .i64 gt, .int .i64 ep, .int .i64 m, u, .int .i64 vd], .agg #[.int .i64 gt, .int .i64 ep, .int .i64 m, v, .int .i64 vd]] w fun e w' => e = .returned (.bool true) ∧ Below w.heap.size w w' := by
  have hu0 := hu; have hv0 := hv
  obtain ⟨A, k, c, rfl, hA⟩ := hu
  obtain ⟨A', k', c', rfl, hA'⟩ := hv
  clear hA hA'
  obtain ⟨w0, hw0⟩ : ∃ w0, w0 = (w.alloc (.cells #[.int .i64 gt, .int .i64 ep, .int .i64 m, .slice A k c, .int .i64 vd] 30)).alloc (.cells #[.int .i64 gt, .int .i64 ep, .int .i64 m, .slice A' k' c', .int .i64 vd] 30) := ⟨_, rfl⟩
  have b0 : Below w.heap.size w w0 := by rw [hw0]; go_grown
  have P0 : Blk w0 w.heap.size 30 #[.int .i64 gt, .int .i64 ep, .int .i64 m, .slice A k c, .int .i64 vd] := by rw [hw0]; exact (Blk.new _ _ _).alloc _
  have Q0 : Blk w0 (w.heap.size + 1) 30 #[.int .i64 gt, .int .i64 ep, .int .i64 m, .slice A' k' c', .int .i64 vd] := by
    rw [hw0]
    have := Blk.new (w.alloc (.cells #[.int .i64 gt, .int .i64 ep, .int .i64 m, .slice A k c, .int .i64 vd] 30)) 30 #[.int .i64 gt, .int .i64 ep, .int .i64 m, .slice A' k' c', .int .i64 vd]
    rwa [World.size_alloc] at this
  have HW0 := Lib.hid hw0; have HB0 := Lib.hid b0; have HP0 := Lib.hid P0; have HQ0 := Lib.hid Q0
  have HU := Lib.hid (hu0.below b0); have HV := Lib.hid (hv0.below b0)
  have he : callEq m m g g = true := callEq_iff.2 ⟨rfl, rfl⟩
  have HE := Lib.hid he
  have hgg : (gt != gt) = false := by simp
  have hee : (ep != ep) = false := by simp
  have hvv : (vd != vd) = false := by simp
  clear hw0 b0 P0 Q0 hu0 hv0 he
  go_enter Tryd.func24, Tryd.ntmps24
  go_wp2_with fail
  rw [← HW0.out]
  refine (eqCall_any m m _ _ g g _ HU.out HV.out).mono ?_; rintro e w1 ⟨rfl, b1⟩
  rw [HE.out]
  have p4 := (show _ = some (Value.int .i64 vd) from (HP0.out.below b1 HP0.out.lt).cell 4)
  have q4 := (show _ = some (Value.int .i64 vd) from (HQ0.out.below b1 HQ0.out.lt).cell 4)
  go_wp2
  go_ret
  exact ⟨rfl, HB0.out.trans (b1.mono HB0.out.size)⟩

set_option maxHeartbeats 1000000 in
theorem eqLine_same (gt ep m vd : Int) (u v : Value) (g : List Int) (sm : List UInt8) (w : World) (hu : Sl w 1 u (ints g)) (hv : Sl w 1 v (ints g)) :
    Calls Tryd.prog 38 #[.agg #[.int .i64 gt, .int .i64 ep, .int .i64 m, u, .int .i64 vd, .string ⟨sm.toArray⟩], .agg #[.int .i64 gt, .int .i64 ep, .int .i64 m, v, .int .i64 vd, .string ⟨sm.toArray⟩]] w fun e w' => e = .returned (.bool true) ∧ Below w.heap.size w w' := by
  have hu0 := hu; have hv0 := hv
  obtain ⟨A, k, c, rfl, hA⟩ := hu
  obtain ⟨A', k', c', rfl, hA'⟩ := hv
  clear hA hA'
  obtain ⟨w0, hw0⟩ : ∃ w0, w0 = (w.alloc (.cells #[.int .i64 gt, .int .i64 ep, .int .i64 m, .slice A k c, .int .i64 vd, .string ⟨sm.toArray⟩] 32)).alloc (.cells #[.int .i64 gt, .int .i64 ep, .int .i64 m, .slice A' k' c', .int .i64 vd, .string ⟨sm.toArray⟩] 32) := ⟨_, rfl⟩
  have b0 : Below w.heap.size w w0 := by rw [hw0]; go_grown
  have P0 : Blk w0 w.heap.size 32 #[.int .i64 gt, .int .i64 ep, .int .i64 m, .slice A k c, .int .i64 vd, .string ⟨sm.toArray⟩] := by rw [hw0]; exact (Blk.new _ _ _).alloc _
  have Q0 : Blk w0 (w.heap.size + 1) 32 #[.int .i64 gt, .int .i64 ep, .int .i64 m, .slice A' k' c', .int .i64 vd, .string ⟨sm.toArray⟩] := by
    rw [hw0]
    have := Blk.new (w.alloc (.cells #[.int .i64 gt, .int .i64 ep, .int .i64 m, .slice A k c, .int .i64 vd, .string ⟨sm.toArray⟩] 32)) 32 #[.int .i64 gt, .int .i64 ep, .int .i64 m, .slice A' k' c', .int .i64 vd, .string ⟨sm.toArray⟩]
    rwa [World.size_alloc] at this
  have HW0 := Lib.hid hw0; have HB0 := Lib.hid b0; have HP0 := Lib.hid P0; have HQ0 := Lib.hid Q0
  have HU := Lib.hid (hu0.below b0); have HV := Lib.hid (hv0.below b0)
  have hss : (sm != sm) = false := by simp
  have hss2 : (sm == sm) = true := by simp
  clear hw0 b0 P0 Q0 hu0 hv0
  go_enter Tryd.func38, Tryd.ntmps38
  go_wp2_with fail
  rw [← HW0.out]
  refine (eqTold_same gt ep m vd _ _ g _ HU.out HV.out).mono ?_; rintro e w1 ⟨rfl, b1⟩
  have p5 := (show _ = some (Value.string ⟨sm.toArray⟩) from (HP0.out.below b1 HP0.out.lt).cell 5)
  have q5 := (show _ = some (Value.string ⟨sm.toArray⟩) from (HQ0.out.below b1 HQ0.out.lt).cell 5)
  go_wp2
  go_ret
  exact ⟨rfl, HB0.out.trans (b1.mono HB0.out.size)⟩
end Go.Proofs.YtaieopdfkapgdaaDoor
