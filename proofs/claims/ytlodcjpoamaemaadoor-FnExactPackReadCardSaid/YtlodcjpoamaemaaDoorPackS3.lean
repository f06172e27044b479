/- The reference's packs' texts: l7Whole, PackWrite. -/
import Derived.Test.YtlodcjpoamaemaaDoorPackS2
namespace Go.Proofs.YtlodcjpoamaemaaDoor
open Go.RowKit
set_option linter.unusedSimpArgs false
set_option linter.unusedVariables false

noncomputable def wholeB (p : Pk) : Bool := @decide p.whole (Classical.propDecidable _)
theorem wholeB_iff {p : Pk} : wholeB p = true ↔ p.whole := by simp [wholeB]
theorem wholeB_of {p : Pk} {x : Bool} (h : x = true ↔ p.whole) : x = wholeB p := by rw [Bool.eq_iff_iff, h, wholeB_iff]
theorem wholeB_no {p : Pk} (h : ¬ p.whole) : wholeB p = false := by rw [← Bool.not_eq_true, wholeB_iff]; exact h
theorem wholeB_yes {p : Pk} (h : p.whole) : wholeB p = true := wholeB_iff.2 h
theorem last_at {l : List UInt8} (h : 0 < l.length) : l.getLast? = some (l[l.length - 1]'(by omega)) := by
  rw [List.getLast?_eq_getElem?, List.getElem?_eq_getElem (by omega)]

set_option maxRecDepth 100000 in
set_option maxHeartbeats 4000000 in
theorem l7Whole_any (p : Pk) (w : World) (hr : p.r.length ≤ 4194304) (hc : p.c.length ≤ 4194304) :
    Calls Tryd.prog 14 #[.agg #[.int .i64 p.e, .string ⟨p.r.toArray⟩, .string ⟨p.c.toArray⟩]] w fun e w' => e = .returned (.bool (wholeB p)) ∧ Below w.heap.size w w' := by
  obtain ⟨e, r, c⟩ := p
  simp only at hr hc ⊢
  obtain ⟨W, hW⟩ : ∃ W, W = wholeB ⟨e, r, c⟩ := ⟨_, rfl⟩
  rw [← hW]
  have HWH := Lib.hid hW
  clear hW
  by_cases he : 1 ≤ e ∧ e ≤ 99
  case neg =>
    have HI := Lib.hid (show inB e 1 99 = false by simp [inB]; omega)
    have HN := Lib.hid (show W = false by rw [HWH.out]; exact wholeB_no fun h => he h.1)
    clear he
    go_enter Tryd.func14, Tryd.ntmps14
    go_wp2_with fail
    refine (l1In_any e 1 99 _).mono ?_; rintro e4 w4 ⟨rfl, rfl⟩
    rw [HI.out]
    go_wp2
    go_ret
    exact ⟨by rw [HN.out]; rfl, by go_grown⟩
  have HI := Lib.hid (show inB e 1 99 = true by simp [inB]; omega)
  have HE := Lib.hid he
  clear he
  by_cases hr0 : 0 < r.length
  case neg =>
    have HN := Lib.hid (show W = false by rw [HWH.out]; exact wholeB_no fun h => absurd (List.mem_of_getLast? h.2.1.2) (by rw [show (⟨e, r, c⟩ : Pk).r = r from rfl, List.length_eq_zero_iff.1 (Nat.le_zero.1 (Nat.not_lt.1 hr0))]; simp))
    have hri : ¬ (0 : Int) < r.length := by omega
    clear hr0
    go_enter Tryd.func14, Tryd.ntmps14
    go_wp2_with fail
    refine (l1In_any e 1 99 _).mono ?_; rintro e4 w4 ⟨rfl, rfl⟩
    rw [HI.out]
    go_wp2
    go_ret
    exact ⟨by rw [HN.out]; first | rfl | (simp only [results, Array.getD]; simp [*]), by go_grown⟩
  have hri : (0 : Int) < r.length := by omega
  by_cases hc0 : 0 < c.length
  case neg =>
    have HN := Lib.hid (show W = false by rw [HWH.out]; exact wholeB_no fun h => absurd (List.mem_of_getLast? h.2.2.2) (by rw [show (⟨e, r, c⟩ : Pk).c = c from rfl, List.length_eq_zero_iff.1 (Nat.le_zero.1 (Nat.not_lt.1 hc0))]; simp))
    have hci : ¬ (0 : Int) < c.length := by omega
    clear hc0
    go_enter Tryd.func14, Tryd.ntmps14
    go_wp2_with fail
    refine (l1In_any e 1 99 _).mono ?_; rintro e4 w4 ⟨rfl, rfl⟩
    rw [HI.out]
    go_wp2
    go_ret
    exact ⟨by rw [HN.out]; first | rfl | (simp only [results, Array.getD]; simp [*]), by go_grown⟩
  have hci : (0 : Int) < c.length := by omega
  by_cases hr9 : r.length ≤ 900
  case neg =>
    have HN := Lib.hid (show W = false by rw [HWH.out]; exact wholeB_no fun h => hr9 h.2.1.1)
    have hr9i : ¬ (r.length : Int) ≤ 900 := by omega
    clear hr9
    go_enter Tryd.func14, Tryd.ntmps14
    go_wp2_with fail
    refine (l1In_any e 1 99 _).mono ?_; rintro e4 w4 ⟨rfl, rfl⟩
    rw [HI.out]
    go_wp2
    go_ret
    exact ⟨by rw [HN.out]; first | rfl | (simp only [results, Array.getD]; simp [*]), by go_grown⟩
  have hr9i : (r.length : Int) ≤ 900 := by omega
  by_cases hc9 : c.length ≤ 2600
  case neg =>
    have HN := Lib.hid (show W = false by rw [HWH.out]; exact wholeB_no fun h => hc9 h.2.2.1)
    have hc9i : ¬ (c.length : Int) ≤ 2600 := by omega
    clear hc9
    go_enter Tryd.func14, Tryd.ntmps14
    go_wp2_with fail
    refine (l1In_any e 1 99 _).mono ?_; rintro e4 w4 ⟨rfl, rfl⟩
    rw [HI.out]
    go_wp2
    go_ret
    exact ⟨by rw [HN.out]; first | rfl | (simp only [results, Array.getD]; simp [*]), by go_grown⟩
  have hc9i : (c.length : Int) ≤ 2600 := by omega
  obtain ⟨jr, hjr⟩ : ∃ j : Nat, j = r.length - 1 := ⟨_, rfl⟩
  obtain ⟨jc, hjc⟩ : ∃ j : Nat, j = c.length - 1 := ⟨_, rfl⟩
  have hjri : (r.length : Int) - 1 = jr := by omega
  have hjci : (c.length : Int) - 1 = jc := by omega
  have hjrl : jr < r.length := by omega
  have hjcl : jc < c.length := by omega
  have HRL := Lib.hid (show r.getLast? = some r[jr] by rw [last_at hr0]; simp [hjr])
  have HCL := Lib.hid (show c.getLast? = some c[jc] by rw [last_at hc0]; simp [hjc])
  clear hjr hjc
  by_cases hr10 : r[jr] = 10
  case neg =>
    have HN := Lib.hid (show W = false by rw [HWH.out]; exact wholeB_no fun h => hr10 (Option.some.inj (HRL.out.symm.trans h.2.1.2)))
    have hbr : jr < (⟨r.toArray⟩ : ByteArray).size := by rw [bsize]; exact hjrl
    have e8 : ((((⟨r.toArray⟩ : ByteArray)[jr]).toNat : Int) == 10) = false := by show ((r[jr].toNat : Int) == 10) = false; rw [show (10 : Int) = ((10 : UInt8).toNat : Int) from rfl, byteEq]; simpa using hr10
    have e9 : ¬ ((⟨r.toArray⟩ : ByteArray)[jr]).toNat = 10 := fun h => hr10 (UInt8.toNat_inj.1 h)
    have e6 : ((r[jr].toNat : Int) == 10) = false := by rw [show (10 : Int) = ((10 : UInt8).toNat : Int) from rfl, byteEq]; simpa using hr10
    have e7 : ¬ r[jr].toNat = 10 := fun h => hr10 (UInt8.toNat_inj.1 h)
    clear hr10
    go_enter Tryd.func14, Tryd.ntmps14
    go_wp2_with fail
    refine (l1In_any e 1 99 _).mono ?_; rintro e4 w4 ⟨rfl, rfl⟩
    rw [HI.out]
    go_wp2
    go_ret
    exact ⟨by rw [HN.out]; first | rfl | (simp only [results, Array.getD]; simp [*]), by go_grown⟩
  have hbr : jr < (⟨r.toArray⟩ : ByteArray).size := by rw [bsize]; exact hjrl
  have e8 : ((((⟨r.toArray⟩ : ByteArray)[jr]).toNat : Int) == 10) = true := by show ((r[jr].toNat : Int) == 10) = true; rw [hr10]; rfl
  have e9 : ((⟨r.toArray⟩ : ByteArray)[jr]).toNat = 10 := by show r[jr].toNat = 10; rw [hr10]; rfl
  have e6 : ((r[jr].toNat : Int) == 10) = true := by rw [hr10]; rfl
  have e7 : r[jr].toNat = 10 := by rw [hr10]; rfl
  by_cases hc10 : c[jc] = 10
  case neg =>
    have HN := Lib.hid (show W = false by rw [HWH.out]; exact wholeB_no fun h => hc10 (Option.some.inj (HCL.out.symm.trans h.2.2.2)))
    have hbc : jc < (⟨c.toArray⟩ : ByteArray).size := by rw [bsize]; exact hjcl
    have f8 : ((((⟨c.toArray⟩ : ByteArray)[jc]).toNat : Int) == 10) = false := by show ((c[jc].toNat : Int) == 10) = false; rw [show (10 : Int) = ((10 : UInt8).toNat : Int) from rfl, byteEq]; simpa using hc10
    have f9 : ¬ ((⟨c.toArray⟩ : ByteArray)[jc]).toNat = 10 := fun h => hc10 (UInt8.toNat_inj.1 h)
    have f6 : ((c[jc].toNat : Int) == 10) = false := by rw [show (10 : Int) = ((10 : UInt8).toNat : Int) from rfl, byteEq]; simpa using hc10
    have f7 : ¬ c[jc].toNat = 10 := fun h => hc10 (UInt8.toNat_inj.1 h)
    clear hc10
    go_enter Tryd.func14, Tryd.ntmps14
    go_wp2_with fail
    refine (l1In_any e 1 99 _).mono ?_; rintro e4 w4 ⟨rfl, rfl⟩
    rw [HI.out]
    go_wp2
    go_ret
    exact ⟨by rw [HN.out]; first | rfl | (simp only [results, Array.getD]; simp [*]), by go_grown⟩
  have hbc : jc < (⟨c.toArray⟩ : ByteArray).size := by rw [bsize]; exact hjcl
  have f8 : ((((⟨c.toArray⟩ : ByteArray)[jc]).toNat : Int) == 10) = true := by show ((c[jc].toNat : Int) == 10) = true; rw [hc10]; rfl
  have f9 : ((⟨c.toArray⟩ : ByteArray)[jc]).toNat = 10 := by show c[jc].toNat = 10; rw [hc10]; rfl
  have f6 : ((c[jc].toNat : Int) == 10) = true := by rw [hc10]; rfl
  have f7 : c[jc].toNat = 10 := by rw [hc10]; rfl
  have HN := Lib.hid (show W = true by rw [HWH.out]; exact wholeB_yes ⟨HE.out, ⟨hr9, by rw [← hr10]; exact HRL.out⟩, ⟨hc9, by rw [← hc10]; exact HCL.out⟩⟩)
  clear hr10 hc10
  go_enter Tryd.func14, Tryd.ntmps14
  go_wp2_with fail
  refine (l1In_any e 1 99 _).mono ?_; rintro e4 w4 ⟨rfl, rfl⟩
  rw [HI.out]
  go_wp2
  go_ret
  exact ⟨by rw [HN.out]; first | rfl | (simp only [results, Array.getD]; simp [*]), by go_grown⟩
end Go.Proofs.YtlodcjpoamaemaaDoor
