/- The laws' helpers on books: szTold, szLine, szLineS. -/
import Derived.Test.YtaieopdfkapgdaaDoorBookI
import Derived.Test.YtaieopdfkapgdaaDoorLawCallTo
namespace Go.Proofs.YtaieopdfkapgdaaDoor
open Go.RowKit
set_option linter.unusedSimpArgs false
set_option linter.unusedVariables false

/-- How great a line is. -/
def lnSize (ln : Ln) : Nat := ln.told.args.length + ln.sum.length
def lnsSize (b : List Ln) : Nat := (b.map lnSize).sum
theorem lnsSize_next {b : List Ln} {k : Nat} {ln : Ln} (h : b[k]? = some ln) : lnsSize (b.take (k + 1)) = lnsSize (b.take k) + lnSize ln := by
  unfold lnsSize
  rw [List.take_add_one, h]
  simp
theorem lnsSize_le (b : List Ln) (k : Nat) : lnsSize (b.take k) ≤ lnsSize b := by
  have e : b.map lnSize = (b.take k).map lnSize ++ (b.drop k).map lnSize := by rw [← List.map_append, List.take_append_drop]
  unfold lnsSize
  rw [e, List.sum_append]
  omega
/-- What is left behind so much, or less than nothing. -/
def leftOf (left : Int) (n : Nat) : Int := if (n : Int) ≤ left then left - n else -1

theorem szTold_any (gt ep m vd : Int) (A : Option Addr) (n c : Nat) (left : Int) (w : World) (hn : n ≤ 9223372036854775807) (h0 : 0 ≤ left) (h1 : left ≤ 9223372036854775807) :
    Calls Tryd.prog 22 #[.agg #[.int .i64 gt, .int .i64 ep, .int .i64 m, .slice A n c, .int .i64 vd], .int .i64 left] w fun e w' => e = .returned (.int .i64 (leftOf left n)) ∧ Below w.heap.size w w' := by
  unfold leftOf
  by_cases h : (n : Int) ≤ left
  · rw [if_pos h]
    have hd : ¬ left - n < 0 := by omega
    go_enter Tryd.func22, Tryd.ntmps22
    go_wp2_with (go_at_call 47; refine (szCall_ok m A n c left _ h h1).mono ?_; rintro e w1 ⟨rfl, b1⟩)
    go_ret
    exact ⟨rfl, below_then (by go_grown) b1⟩
  · rw [if_neg h]
    go_enter Tryd.func22, Tryd.ntmps22
    go_wp2_with (go_at_call 47; refine (szCall_no m A n c left _ hn h0 (by omega)).mono ?_; rintro e w1 ⟨rfl, b1⟩)
    go_ret
    exact ⟨rfl, below_then (by go_grown) b1⟩

theorem szLine_any (gt ep m vd : Int) (A : Option Addr) (n c : Nat) (sm : List UInt8) (left : Int) (w : World) (hn : n ≤ 9223372036854775807) (hn2 : sm.length ≤ 9223372036854775807) (h0 : 0 ≤ left) (h1 : left ≤ 9223372036854775807) :
    Calls Tryd.prog 36 #[.agg #[.int .i64 gt, .int .i64 ep, .int .i64 m, .slice A n c, .int .i64 vd, .string ⟨sm.toArray⟩], .int .i64 left] w fun e w' => e = .returned (.int .i64 (leftOf left (n + sm.length))) ∧ Below w.heap.size w w' := by
  obtain ⟨w1, hw1⟩ : ∃ w1, w1 = w.alloc (.cells #[.int .i64 gt, .int .i64 ep, .int .i64 m, .slice A n c, .int .i64 vd, .string ⟨sm.toArray⟩] 70) := ⟨_, rfl⟩
  have b1 : Below w.heap.size w w1 := by rw [hw1]; go_grown
  have B1 : Blk w1 w.heap.size 70 #[.int .i64 gt, .int .i64 ep, .int .i64 m, .slice A n c, .int .i64 vd, .string ⟨sm.toArray⟩] := by rw [hw1]; exact Blk.new _ _ _
  have HB1 := Lib.hid B1; have HW1 := Lib.hid hw1; have HBL := Lib.hid b1
  have hl := B1.lt
  clear hw1 B1 b1
  by_cases h : (n : Int) ≤ left
  · have e1 : leftOf left n = left - n := by unfold leftOf; rw [if_pos h]
    have E1 := Lib.hid e1; clear e1
    have h2 : 0 ≤ left - n := by omega
    by_cases h3 : ((n + sm.length : Nat) : Int) ≤ left
    · have e2 : leftOf left (n + sm.length) = left - n - sm.length := by unfold leftOf; rw [if_pos h3]; omega
      have E2 := Lib.hid e2; clear e2
      have h4 : ¬ left - n - sm.length < 0 := by omega
      go_enter Tryd.func36, Tryd.ntmps36
      go_wp2_with fail
      rw [← HW1.out]
      refine (szTold_any gt ep m vd A n c left w1 (by omega) h0 h1).mono ?_; rintro e w2 ⟨rfl, b2⟩
      rw [E1.out]
      have c5 := (show _ = some (Value.string ⟨sm.toArray⟩) from (HB1.out.below b2 hl).cell 5)
      go_wp2
      go_ret
      exact ⟨ret_int E2.out.symm, HBL.out.trans (b2.mono HBL.out.size)⟩
    · have e2 : leftOf left (n + sm.length) = -1 := by unfold leftOf; rw [if_neg h3]
      have E2 := Lib.hid e2; clear e2
      have h4 : left - n - sm.length < 0 := by omega
      go_enter Tryd.func36, Tryd.ntmps36
      go_wp2_with fail
      rw [← HW1.out]
      refine (szTold_any gt ep m vd A n c left w1 (by omega) h0 h1).mono ?_; rintro e w2 ⟨rfl, b2⟩
      rw [E1.out]
      have c5 := (show _ = some (Value.string ⟨sm.toArray⟩) from (HB1.out.below b2 hl).cell 5)
      go_wp2
      go_ret
      exact ⟨ret_int E2.out.symm, HBL.out.trans (b2.mono HBL.out.size)⟩
  · have e1 : leftOf left n = -1 := by unfold leftOf; rw [if_neg h]
    have E1 := Lib.hid e1; clear e1
    have e2 : leftOf left (n + sm.length) = -1 := by unfold leftOf; rw [if_neg (by omega)]
    have E2 := Lib.hid e2; clear e2
    go_enter Tryd.func36, Tryd.ntmps36
    go_wp2_with fail
    rw [← HW1.out]
    refine (szTold_any gt ep m vd A n c left w1 (by omega) h0 h1).mono ?_; rintro e w2 ⟨rfl, b2⟩
    rw [E1.out]
    go_wp2
    go_ret
    exact ⟨ret_int E2.out.symm, HBL.out.trans (b2.mono HBL.out.size)⟩

set_option maxHeartbeats 2000000 in
theorem szLineS_any (v : Value) (b : List Ln) (left : Int) (w : World) (hb : BookIs w v b) (h0 : 0 ≤ left) (h1 : left ≤ 1048576) (hsz : ∀ ln ∈ b, ln.told.args.length ≤ 9223372036854775807 ∧ ln.sum.length ≤ 9223372036854775807) :
    Calls Tryd.prog 13 #[v, .int .i64 left] w fun e w' => e = .returned (.int .i64 (leftOf left (b.length + lnsSize b))) ∧ Below w.heap.size w w' := by
  obtain ⟨A, n, c, css, rfl, hA, hcl, hli⟩ := hb
  have hn : b.length = n := by have := hA.len; omega
  have hcp := hA.cap
  have hmx := hA.max
  unfold maxLen at hmx
  rw [hn]
  have HA := Lib.hid hA; have HLI := Lib.hid hli; have HCL := Lib.hid hcl; have HN := Lib.hid hn; have HSZ := Lib.hid hsz
  clear hA hli hcl hn hsz
  by_cases h2 : (n : Int) ≤ left
  · have h3 : ¬ left - n < 0 := by omega
    go_enter Tryd.func13, Tryd.ntmps13
    go_wp2
    go_loopw [1, 5] (fun l i wr => ∃ (k : Nat) (z : Int), k ≤ n ∧ i = .int .i64 k ∧ l = .int .i64 z ∧ 0 ≤ z ∧ z ≤ 1048576 ∧ Hid (z = left - n - lnsSize (b.take k)) ∧ Below w.heap.size w wr) (fun _ i _ => n - (intOf i).toNat)
    case atStart => exact ⟨0, _, by omega, rfl, rfl, by omega, by omega, Lib.hid (by simp [lnsSize]), Below.refl _ _⟩
    case round =>
      obtain ⟨k, z, hk, rfl, rfl, z0, z1, HZ, hb⟩ := hrel
      by_cases hlt : k < n
      · obtain ⟨g, off, ln, av, rfl, hg, hbk, hs, hok, x0, x1, x2, x3, x4, x5⟩ := book_get HA.out HCL.out HLI.out hlt
        have y0 := (hb.cell (p := ⟨g, off + k * 6, none⟩) hg).trans x0
        have y1 := (hb.cell (p := ⟨g, off + k * 6 + 1, none⟩) hg).trans x1
        have y2 := (hb.cell (p := ⟨g, off + k * 6 + 2, none⟩) hg).trans x2
        have y3 := (hb.cell (p := ⟨g, off + k * 6 + 3, none⟩) hg).trans x3
        have y4 := (hb.cell (p := ⟨g, off + k * 6 + 4, none⟩) hg).trans x4
        have y5 := (hb.cell (p := ⟨g, off + k * 6 + 5, none⟩) hg).trans x5
        have hmem := HSZ.out ln (List.mem_of_getElem? hbk)
        have HNX := Lib.hid (lnsSize_next hbk)
        have HLE := Lib.hid (lnsSize_le b (k + 1))
        obtain ⟨⟨gt, ep, nm, xs, vd⟩, sm⟩ := ln
        simp only at y0 y1 y2 y3 y4 y5 hs hok
        obtain ⟨A2, n2, c2, rfl, hA2⟩ := hs
        have hx2 : xs.length = n2 := by have := hA2.len; rwa [ints_len] at this
        obtain ⟨q, hq⟩ : ∃ q, q = n2 + sm.length := ⟨_, rfl⟩
        have HQ := Lib.hid (show lnSize ⟨⟨gt, ep, nm, xs, vd⟩, sm⟩ = q by rw [hq, ← hx2]; rfl)
        have HQ2 := Lib.hid (show n2 ≤ 9223372036854775807 ∧ sm.length ≤ 9223372036854775807 from ⟨by rw [← hx2]; exact hmem.1, hmem.2⟩)
        have kn : (k : Int) < n := by omega
        have HLT := Lib.hid hlt
        have HQE := Lib.hid hq
        clear x0 x1 x2 x3 x4 x5 hbk hok hA2 hx2 hmem hlt hk hq
        by_cases hle : (q : Int) ≤ z
        · have HL := Lib.hid (show leftOf z (n2 + sm.length) = z - q by rw [← HQE.out]; unfold leftOf; rw [if_pos hle])
          have h4 : ¬ z - q < 0 := by omega
          go_wp2_with fail
          refine (szLine_any gt ep nm vd A2 n2 c2 sm z _ HQ2.out.1 HQ2.out.2 z0 (by omega)).mono ?_; rintro e w2 ⟨rfl, b2⟩
          rw [HL.out]
          go_wp2
          have hk := HLT.out
          refine ⟨⟨k + 1, z - q, by omega, by go_num, rfl, by omega, by omega, Lib.hid ?_, below_then hb b2⟩, by simp [intOf]; omega⟩
          have e1 := HZ.out; have e2 := HNX.out; have e3 := HQ.out
          omega
        · have HL := Lib.hid (show leftOf z (n2 + sm.length) = -1 by rw [← HQE.out]; unfold leftOf; rw [if_neg hle])
          go_wp2_with fail
          refine (szLine_any gt ep nm vd A2 n2 c2 sm z _ HQ2.out.1 HQ2.out.2 z0 (by omega)).mono ?_; rintro e w2 ⟨rfl, b2⟩
          rw [HL.out]
          go_wp2
          go_ret
          refine ⟨ret_int ?_, below_then hb b2⟩
          have e1 := HZ.out; have e2 := HNX.out; have e3 := HQ.out; have e4 := HLE.out
          unfold leftOf
          rw [if_neg (by omega)]
      · obtain rfl : k = n := by omega
        have hall : b.take k = b := List.take_of_length_le (by rw [HN.out]; exact Nat.le_refl _)
        rw [hall] at HZ
        clear hall hk hlt
        go_wp2
        go_ret
        refine ⟨ret_int ?_, hb⟩
        have e1 := HZ.out
        unfold leftOf
        rw [if_pos (by omega)]
        omega
  · have h3 : left - n < 0 := by omega
    have HL := Lib.hid (show leftOf left (n + lnsSize b) = -1 by unfold leftOf; rw [if_neg (by omega)])
    go_enter Tryd.func13, Tryd.ntmps13
    go_wp2
    go_ret
    exact ⟨ret_int HL.out.symm, Below.refl _ _⟩
end Go.Proofs.YtaieopdfkapgdaaDoor
