/- impl's cursor on a line that is one: verdict. -/
import Derived.Test.YtdjgicapbpoigaaGreatDoorCurI
namespace Go.Proofs.YtdjgicapbpoigaaGreatDoor
open Go.RowKit
set_option linter.unusedSimpArgs false
set_option linter.unusedVariables false

theorem verd_other {v k : Int} {r : List UInt8} (hv : 1 ≤ v ∧ v ≤ 4) (hk : 1 ≤ k ∧ k < v) : ¬ ∃ t, verdNm v ++ r = verdNm k ++ t := by
 rintro ⟨t, h⟩
 obtain rfl | rfl | rfl | rfl : v = 1 ∨ v = 2 ∨ v = 3 ∨ v = 4 := by omega
 · omega
 · obtain rfl : k = 1 := by omega
   simp [verdNm] at h
 · obtain rfl | rfl : k = 1 ∨ k = 2 := by omega
   all_goals simp [verdNm] at h
 · obtain rfl | rfl | rfl : k = 1 ∨ k = 2 ∨ k = 3 := by omega
   all_goals simp [verdNm] at h
set_option maxHeartbeats 1000000 in
theorem verdict_yes (g : Nat) (line v : Int) (r : List UInt8) (w : World) (h : Blk w g TCur #[.string ⟨(verdNm v ++ r).toArray⟩, .int .i64 line]) (hv : 1 ≤ v ∧ v ≤ 4) :
   Calls Tryz.prog 74 #[.pointer (some ⟨g, 0, none⟩)] w fun e w' => e = .returned (.tuple #[.int .i64 v, .bool true]) ∧ Cur w w' g line r := by
 have H := Lib.hid h
 clear h
 go_enter Tryz.func74, Tryz.ntmps74
 go_wp2
 go_loopw [4] (fun i wr => ∃ k : Int, 1 ≤ k ∧ k ≤ v ∧ i = .int .i64 k ∧ Cur w wr g line (verdNm v ++ r)) (fun i _ => (v - intOf i).toNat)
 case atStart => exact ⟨1, by omega, by omega, rfl, Cur.start H.out⟩
 case round =>
   obtain ⟨k, hk1, hk2, rfl, hc⟩ := hrel
   have hk4 : k ≤ 4 := by omega
   have x0 := (show _ = some (Value.string ⟨(verdNm v ++ r).toArray⟩) from hc.blk.cell 0); have f0 := hc.blk.frozen 0
   have HC := Lib.hid hc
   clear hc
   go_wp2_with fail
   refine (verdictName_any k wr).mono ?_; rintro e w1 ⟨rfl, rfl⟩
   go_wp2_with fail
   by_cases e : k = v
   · subst e
     refine (skip_yes ⟨(verdNm k ++ r).toArray⟩ ⟨(verdNm k).toArray⟩ r g 0 wr x0 f0 rfl).mono ?_; rintro e w1 ⟨rfl, rfl⟩
     have HE := Lib.hid (HC.out.to (t' := r))
     clear x0 f0
     go_wp2
     go_ret2
     exact ⟨rfl, HE.out⟩
   · refine (skip_no ⟨(verdNm v ++ r).toArray⟩ ⟨(verdNm k).toArray⟩ g 0 wr x0 f0 (verd_other hv ⟨hk1, by omega⟩)).mono ?_; rintro e w1 ⟨rfl, rfl⟩
     have HE := Lib.hid (HC.out.to (t' := verdNm v ++ r))
     clear x0 f0
     go_wp2
     exact ⟨⟨k + 1, by omega, by omega, by go_num, HE.out⟩, by simp [intOf]; omega⟩
end Go.Proofs.YtdjgicapbpoigaaGreatDoor
