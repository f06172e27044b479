/- Joined texts: LawLine LawLine2 LawLine3 LawLine4. -/
import Derived.Test.YtaieopdfkapgdaaDoorBookAA
import Derived.Test.YtaieopdfkapgdaaDoorLawCallTo
import Derived.Deep.MidRow
import Derived.Deep.CutBlock
-- The laws' helpers on books: szTold, szLine, szLineS.
namespace Go.Proofs.YtaieopdfkapgdaaDoor
open Go.RowKit
set_option linter.unusedSimpArgs false
set_option linter.unusedVariables false

/-- How great a line is. -/
def lnSize (ln : Ln) : Nat := ln.told.args.length + ln.sum.length
def lnsSize (b : List Ln) : Nat := (b.map lnSize).sum
theorem lnsSize_next {b : List Ln} {k : Nat} {ln : Ln} (h : b[k]? = some ln) : lnsSize (b.take (k + 1)) = lnsSize (b.take k) + lnSize ln := by
  unfold lnsSize
  rw [List.take_add_one, h]
  simp
theorem lnsSize_le (b : List Ln) (k : Nat) : lnsSize (b.take k) ≤ lnsSize b := by
  have e : b.map lnSize = (b.take k).map lnSize ++ (b.drop k).map lnSize := by rw [← List.map_append, List.take_append_drop]
  unfold lnsSize
  rw [e, List.sum_append]
  omega
/-- What is left behind so much, or less than nothing. -/
def leftOf (left : Int) (n : Nat) : Int := if (n : Int) ≤ left then left - n else -1

theorem szTold_any (gt ep m vd : Int) (A : Option Addr) (n c : Nat) (left : Int) (w : World) (hn : n ≤ 9223372036854775807) (h0 : 0 ≤ left) (h1 : left ≤ 9223372036854775807) :
    Calls Tryd.prog 22 #[.agg #[.int .i64 gt, .int .i64 ep, .int .i64 m, .slice A n c, .int .i64 vd], .int .i64 left] w fun e w' => e = .returned (.int .i64 (leftOf left n)) ∧ Below w.heap.size w w' := by
  unfold leftOf
  by_cases h : (n : Int) ≤ left
  · rw [if_pos h]
    have hd : ¬ left - n < 0 := by omega
    go_enter Tryd.func22, Tryd.ntmps22
    go_wp2_with (go_at_call 47; refine (szCall_ok m A n c left _ h h1).mono ?_; rintro e w1 ⟨rfl, b1⟩)
    go_ret
    exact ⟨rfl, below_then (by go_grown) b1⟩
  · rw [if_neg h]
    go_enter Tryd.func22, Tryd.ntmps22
    go_wp2_with (go_at_call 47; refine (szCall_no m A n c left _ hn h0 (by omega)).mono ?_; rintro e w1 ⟨rfl, b1⟩)
    go_ret
    exact ⟨rfl, below_then (by go_grown) b1⟩

theorem szLine_any (gt ep m vd : Int) (A : Option Addr) (n c : Nat) (sm : List UInt8) (left : Int) (w : World) (hn : n ≤ 9223372036854775807) (hn2 : sm.length ≤ 9223372036854775807) (h0 : 0 ≤ left) (h1 : left ≤ 9223372036854775807) :
    Calls Tryd.prog 36 #[.agg #[.int .i64 gt, .int .i64 ep, .int .i64 m, .slice A n c, .int .i64 vd, .string ⟨sm.toArray⟩], .int .i64 left] w fun e w' => e = .returned (.int .i64 (leftOf left (n + sm.length))) ∧ Below w.heap.size w w' := by
  obtain ⟨w1, hw1⟩ : ∃ w1, w1 = w.alloc (.cells #[.int .i64 gt, .int .i64 ep, .int .i64 m, .slice A n c, .int .i64 vd, .string ⟨sm.toArray⟩] 70) := ⟨_, rfl⟩
  have b1 : Below w.heap.size w w1 := by rw [hw1]; go_grown
  have B1 : Blk w1 w.heap.size 70 #[.int .i64 gt, .int .i64 ep, .int .i64 m, .slice A n c, .int .i64 vd, .string ⟨sm.toArray⟩] := by rw [hw1]; exact Blk.new _ _ _
  have HB1 := Lib.hid B1; have HW1 := Lib.hid hw1; have HBL := Lib.hid b1
  have hl := B1.lt
  clear hw1 B1 b1
  by_cases h : (n : Int) ≤ left
  · have e1 : leftOf left n = left - n := by unfold leftOf; rw [if_pos h]
    have E1 := Lib.hid e1; clear e1
    have h2 : 0 ≤ left - n := by omega
    by_cases h3 : ((n + sm.length : Nat) : Int) ≤ left
    · have e2 : leftOf left (n + sm.length) = left - n - sm.length := by unfold leftOf; rw [if_pos h3]; omega
      have E2 := Lib.hid e2; clear e2
      have h4 : ¬ left - n - sm.length < 0 := by omega
      go_enter Tryd.func36, Tryd.ntmps36
      go_wp2_with fail
      rw [← HW1.out]
      refine (szTold_any gt ep m vd A n c left w1 (by omega) h0 h1).mono ?_; rintro e w2 ⟨rfl, b2⟩
      rw [E1.out]
      have c5 := (show _ = some (Value.string ⟨sm.toArray⟩) from (HB1.out.below b2 hl).cell 5)
      go_wp2
      go_ret
      exact ⟨ret_int E2.out.symm, HBL.out.trans (b2.mono HBL.out.size)⟩
    · have e2 : leftOf left (n + sm.length) = -1 := by unfold leftOf; rw [if_neg h3]
      have E2 := Lib.hid e2; clear e2
      have h4 : left - n - sm.length < 0 := by omega
      go_enter Tryd.func36, Tryd.ntmps36
      go_wp2_with fail
      rw [← HW1.out]
      refine (szTold_any gt ep m vd A n c left w1 (by omega) h0 h1).mono ?_; rintro e w2 ⟨rfl, b2⟩
      rw [E1.out]
      have c5 := (show _ = some (Value.string ⟨sm.toArray⟩) from (HB1.out.below b2 hl).cell 5)
      go_wp2
      go_ret
      exact ⟨ret_int E2.out.symm, HBL.out.trans (b2.mono HBL.out.size)⟩
  · have e1 : leftOf left n = -1 := by unfold leftOf; rw [if_neg h]
    have E1 := Lib.hid e1; clear e1
    have e2 : leftOf left (n + sm.length) = -1 := by unfold leftOf; rw [if_neg (by omega)]
    have E2 := Lib.hid e2; clear e2
    go_enter Tryd.func36, Tryd.ntmps36
    go_wp2_with fail
    rw [← HW1.out]
    refine (szTold_any gt ep m vd A n c left w1 (by omega) h0 h1).mono ?_; rintro e w2 ⟨rfl, b2⟩
    rw [E1.out]
    go_wp2
    go_ret
    exact ⟨ret_int E2.out.symm, HBL.out.trans (b2.mono HBL.out.size)⟩

set_option maxHeartbeats 2000000 in
theorem szLineS_any (v : Value) (b : List Ln) (left : Int) (w : World) (hb : BookIs w v b) (h0 : 0 ≤ left) (h1 : left ≤ 1048576) (hsz : ∀ ln ∈ b, ln.told.args.length ≤ 9223372036854775807 ∧ ln.sum.length ≤ 9223372036854775807) :
    Calls Tryd.prog 13 #[v, .int .i64 left] w fun e w' => e = .returned (.int .i64 (leftOf left (b.length + lnsSize b))) ∧ Below w.heap.size w w' := by
  obtain ⟨A, n, c, css, rfl, hA, hcl, hli⟩ := hb
  have hn : b.length = n := by have := hA.len; omega
  have hcp := hA.cap
  have hmx := hA.max
  unfold maxLen at hmx
  rw [hn]
  have HA := Lib.hid hA; have HLI := Lib.hid hli; have HCL := Lib.hid hcl; have HN := Lib.hid hn; have HSZ := Lib.hid hsz
  clear hA hli hcl hn hsz
  by_cases h2 : (n : Int) ≤ left
  · have h3 : ¬ left - n < 0 := by omega
    go_enter Tryd.func13, Tryd.ntmps13
    go_wp2
    go_loopw [1, 5] (fun l i wr => ∃ (k : Nat) (z : Int), k ≤ n ∧ i = .int .i64 k ∧ l = .int .i64 z ∧ 0 ≤ z ∧ z ≤ 1048576 ∧ Hid (z = left - n - lnsSize (b.take k)) ∧ Below w.heap.size w wr) (fun _ i _ => n - (intOf i).toNat)
    case atStart => exact ⟨0, _, by omega, rfl, rfl, by omega, by omega, Lib.hid (by simp [lnsSize]), Below.refl _ _⟩
    case round =>
      obtain ⟨k, z, hk, rfl, rfl, z0, z1, HZ, hb⟩ := hrel
      by_cases hlt : k < n
      · obtain ⟨g, off, ln, av, rfl, hg, hbk, hs, hok, x0, x1, x2, x3, x4, x5⟩ := book_get HA.out HCL.out HLI.out hlt
        have y0 := (hb.cell (p := ⟨g, off + k * 6, none⟩) hg).trans x0
        have y1 := (hb.cell (p := ⟨g, off + k * 6 + 1, none⟩) hg).trans x1
        have y2 := (hb.cell (p := ⟨g, off + k * 6 + 2, none⟩) hg).trans x2
        have y3 := (hb.cell (p := ⟨g, off + k * 6 + 3, none⟩) hg).trans x3
        have y4 := (hb.cell (p := ⟨g, off + k * 6 + 4, none⟩) hg).trans x4
        have y5 := (hb.cell (p := ⟨g, off + k * 6 + 5, none⟩) hg).trans x5
        have hmem := HSZ.out ln (List.mem_of_getElem? hbk)
        have HNX := Lib.hid (lnsSize_next hbk)
        have HLE := Lib.hid (lnsSize_le b (k + 1))
        obtain ⟨⟨gt, ep, nm, xs, vd⟩, sm⟩ := ln
        simp only at y0 y1 y2 y3 y4 y5 hs hok
        obtain ⟨A2, n2, c2, rfl, hA2⟩ := hs
        have hx2 : xs.length = n2 := by have := hA2.len; rwa [ints_len] at this
        obtain ⟨q, hq⟩ : ∃ q, q = n2 + sm.length := ⟨_, rfl⟩
        have HQ := Lib.hid (show lnSize ⟨⟨gt, ep, nm, xs, vd⟩, sm⟩ = q by rw [hq, ← hx2]; rfl)
        have HQ2 := Lib.hid (show n2 ≤ 9223372036854775807 ∧ sm.length ≤ 9223372036854775807 from ⟨by rw [← hx2]; exact hmem.1, hmem.2⟩)
        have kn : (k : Int) < n := by omega
        have HLT := Lib.hid hlt
        have HQE := Lib.hid hq
        clear x0 x1 x2 x3 x4 x5 hbk hok hA2 hx2 hmem hlt hk hq
        by_cases hle : (q : Int) ≤ z
        · have HL := Lib.hid (show leftOf z (n2 + sm.length) = z - q by rw [← HQE.out]; unfold leftOf; rw [if_pos hle])
          have h4 : ¬ z - q < 0 := by omega
          go_wp2_with fail
          refine (szLine_any gt ep nm vd A2 n2 c2 sm z _ HQ2.out.1 HQ2.out.2 z0 (by omega)).mono ?_; rintro e w2 ⟨rfl, b2⟩
          rw [HL.out]
          go_wp2
          have hk := HLT.out
          refine ⟨⟨k + 1, z - q, by omega, by go_num, rfl, by omega, by omega, Lib.hid ?_, below_then hb b2⟩, by simp [intOf]; omega⟩
          have e1 := HZ.out; have e2 := HNX.out; have e3 := HQ.out
          omega
        · have HL := Lib.hid (show leftOf z (n2 + sm.length) = -1 by rw [← HQE.out]; unfold leftOf; rw [if_neg hle])
          go_wp2_with fail
          refine (szLine_any gt ep nm vd A2 n2 c2 sm z _ HQ2.out.1 HQ2.out.2 z0 (by omega)).mono ?_; rintro e w2 ⟨rfl, b2⟩
          rw [HL.out]
          go_wp2
          go_ret
          refine ⟨ret_int ?_, below_then hb b2⟩
          have e1 := HZ.out; have e2 := HNX.out; have e3 := HQ.out; have e4 := HLE.out
          unfold leftOf
          rw [if_neg (by omega)]
      · obtain rfl : k = n := by omega
        have hall : b.take k = b := List.take_of_length_le (by rw [HN.out]; exact Nat.le_refl _)
        rw [hall] at HZ
        clear hall hk hlt
        go_wp2
        go_ret
        refine ⟨ret_int ?_, hb⟩
        have e1 := HZ.out
        unfold leftOf
        rw [if_pos (by omega)]
        omega
  · have h3 : left - n < 0 := by omega
    have HL := Lib.hid (show leftOf left (n + lnsSize b) = -1 by unfold leftOf; rw [if_neg (by omega)])
    go_enter Tryd.func13, Tryd.ntmps13
    go_wp2
    go_ret
    exact ⟨ret_int HL.out.symm, Below.refl _ _⟩
end Go.Proofs.YtaieopdfkapgdaaDoor

-- The laws' helpers on books: toTold, toLine.
namespace Go.Proofs.YtaieopdfkapgdaaDoor
open Go.RowKit
set_option linter.unusedSimpArgs false
set_option linter.unusedVariables false

set_option maxHeartbeats 2000000 in
theorem toTold_any (gt ep m vd : Int) (u : Value) (g : List Int) (w : World) (hu : Sl w 1 u (ints g)) (hn : g.length ≤ 1048576) :
    Calls Tryd.prog 23 #[.agg #[.int .i64 gt, .int .i64 ep, .int .i64 m, u, .int .i64 vd]] w fun e w' => ∃ v, e = .returned (.agg #[.int .i64 gt, .int .i64 ep, .int .i64 m, v, .int .i64 vd]) ∧ w'.ownsRow w.heap.size 3 1 v g.length (ints g).flatten ∧ Below w.heap.size w w' := by
  have hu0 := hu
  obtain ⟨A, n, c, rfl, hA⟩ := hu
  clear hA
  go_enter Tryd.func23, Tryd.ntmps23
  go_wp2_with fail
  refine (toCall_any m _ g _ (hu0.below (by go_grown)) hn).mono ?_; rintro e1 w1 ⟨v1, rfl, o1, b1⟩
  obtain ⟨A1, n1, k1, rfl, -⟩ := SlA.of_own o1 (ints_len g) (ints_rows g)
  have p0 : w1.cell? ⟨w.heap.size, 0, none⟩ = some (.int .i64 gt) := (b1.cell (p := ⟨w.heap.size, 0, none⟩) (by simp <;> omega)).trans (by simp [go_sem])
  have p1 : w1.cell? ⟨w.heap.size, 1, none⟩ = some (.int .i64 ep) := (b1.cell (p := ⟨w.heap.size, 1, none⟩) (by simp <;> omega)).trans (by simp [go_sem])
  have p2 : w1.cell? ⟨w.heap.size, 2, none⟩ = some (.int .i64 m) := (b1.cell (p := ⟨w.heap.size, 2, none⟩) (by simp <;> omega)).trans (by simp [go_sem])
  have p3 : w1.cell? ⟨w.heap.size, 3, none⟩ = some (.slice A n c) := (b1.cell (p := ⟨w.heap.size, 3, none⟩) (by simp <;> omega)).trans (by simp [go_sem])
  have p4 : w1.cell? ⟨w.heap.size, 4, none⟩ = some (.int .i64 vd) := (b1.cell (p := ⟨w.heap.size, 4, none⟩) (by simp <;> omega)).trans (by simp [go_sem])
  have q0 : w1.cell? ⟨w.heap.size + 1, 0, none⟩ = some (.int .i64 0) := (b1.cell (p := ⟨w.heap.size + 1, 0, none⟩) (by simp <;> omega)).trans (by simp [go_sem])
  have fq0 : w1.frozen? ⟨w.heap.size + 1, 0, none⟩ = false := (b1.frozen (p := ⟨w.heap.size + 1, 0, none⟩) (by simp <;> omega)).trans (by simp [go_sem])
  have q1 : w1.cell? ⟨w.heap.size + 1, 1, none⟩ = some (.int .i64 0) := (b1.cell (p := ⟨w.heap.size + 1, 1, none⟩) (by simp <;> omega)).trans (by simp [go_sem])
  have fq1 : w1.frozen? ⟨w.heap.size + 1, 1, none⟩ = false := (b1.frozen (p := ⟨w.heap.size + 1, 1, none⟩) (by simp <;> omega)).trans (by simp [go_sem])
  have q2 : w1.cell? ⟨w.heap.size + 1, 2, none⟩ = some (.int .i64 0) := (b1.cell (p := ⟨w.heap.size + 1, 2, none⟩) (by simp <;> omega)).trans (by simp [go_sem])
  have fq2 : w1.frozen? ⟨w.heap.size + 1, 2, none⟩ = false := (b1.frozen (p := ⟨w.heap.size + 1, 2, none⟩) (by simp <;> omega)).trans (by simp [go_sem])
  have q3 : w1.cell? ⟨w.heap.size + 1, 3, none⟩ = some (.slice none 0 0) := (b1.cell (p := ⟨w.heap.size + 1, 3, none⟩) (by simp <;> omega)).trans (by simp [go_sem])
  have fq3 : w1.frozen? ⟨w.heap.size + 1, 3, none⟩ = false := (b1.frozen (p := ⟨w.heap.size + 1, 3, none⟩) (by simp <;> omega)).trans (by simp [go_sem])
  have q4 : w1.cell? ⟨w.heap.size + 1, 4, none⟩ = some (.int .i64 0) := (b1.cell (p := ⟨w.heap.size + 1, 4, none⟩) (by simp <;> omega)).trans (by simp [go_sem])
  have fq4 : w1.frozen? ⟨w.heap.size + 1, 4, none⟩ = false := (b1.frozen (p := ⟨w.heap.size + 1, 4, none⟩) (by simp <;> omega)).trans (by simp [go_sem])
  have r0 : w1.cell? ⟨w.heap.size + 1 + 1, 0, none⟩ = some (.int .i64 gt) := (b1.cell (p := ⟨w.heap.size + 1 + 1, 0, none⟩) (by simp <;> omega)).trans (by simp [go_sem])
  have fr0 : w1.frozen? ⟨w.heap.size + 1 + 1, 0, none⟩ = false := (b1.frozen (p := ⟨w.heap.size + 1 + 1, 0, none⟩) (by simp <;> omega)).trans (by simp [go_sem])
  have r1 : w1.cell? ⟨w.heap.size + 1 + 1, 1, none⟩ = some (.int .i64 ep) := (b1.cell (p := ⟨w.heap.size + 1 + 1, 1, none⟩) (by simp <;> omega)).trans (by simp [go_sem])
  have fr1 : w1.frozen? ⟨w.heap.size + 1 + 1, 1, none⟩ = false := (b1.frozen (p := ⟨w.heap.size + 1 + 1, 1, none⟩) (by simp <;> omega)).trans (by simp [go_sem])
  have r2 : w1.cell? ⟨w.heap.size + 1 + 1, 2, none⟩ = some (.int .i64 0) := (b1.cell (p := ⟨w.heap.size + 1 + 1, 2, none⟩) (by simp <;> omega)).trans (by simp [go_sem])
  have fr2 : w1.frozen? ⟨w.heap.size + 1 + 1, 2, none⟩ = false := (b1.frozen (p := ⟨w.heap.size + 1 + 1, 2, none⟩) (by simp <;> omega)).trans (by simp [go_sem])
  have r3 : w1.cell? ⟨w.heap.size + 1 + 1, 3, none⟩ = some (.slice none 0 0) := (b1.cell (p := ⟨w.heap.size + 1 + 1, 3, none⟩) (by simp <;> omega)).trans (by simp [go_sem])
  have fr3 : w1.frozen? ⟨w.heap.size + 1 + 1, 3, none⟩ = false := (b1.frozen (p := ⟨w.heap.size + 1 + 1, 3, none⟩) (by simp <;> omega)).trans (by simp [go_sem])
  have r4 : w1.cell? ⟨w.heap.size + 1 + 1, 4, none⟩ = some (.int .i64 0) := (b1.cell (p := ⟨w.heap.size + 1 + 1, 4, none⟩) (by simp <;> omega)).trans (by simp [go_sem])
  have fr4 : w1.frozen? ⟨w.heap.size + 1 + 1, 4, none⟩ = false := (b1.frozen (p := ⟨w.heap.size + 1 + 1, 4, none⟩) (by simp <;> omega)).trans (by simp [go_sem])
  have hb : Below w.heap.size w w1 := below_then (by go_grown) b1
  have O1 := Lib.hid o1; have HB := Lib.hid hb; have HB1 := Lib.hid b1
  clear o1 hb b1
  go_wp2
  have o1 := O1.out; have hb := HB.out
  refine bodyPost_ret (v := .agg #[.int .i64 gt, .int .i64 ep, .int .i64 m, .slice A1 n1 k1, .int .i64 vd]) (by simp [results, Tryd.results23, go_sem, p4, r0, r1, r2, r3, r4, q0, q1, q2, q3, q4]) rfl ⟨_, rfl, own_base (ownsRow_setCell_below (ownsRow_setCell_below (ownsRow_setCell_below (ownsRow_setCell_below (ownsRow_setCell_below (ownsRow_setCell_below (ownsRow_setCell_below (ownsRow_setCell_below o1 (by first | (show w.heap.size + 1 < _; simp; done) | (simp; done) | (simp; omega)) _) (by first | (show w.heap.size + 1 < _; simp; done) | (simp; done) | (simp; omega)) _) (by first | (show w.heap.size + 1 < _; simp; done) | (simp; done) | (simp; omega)) _) (by first | (show w.heap.size + 1 < _; simp; done) | (simp; done) | (simp; omega)) _) (by first | (show w.heap.size + 1 < _; simp; done) | (simp; done) | (simp; omega)) _) (by first | (show w.heap.size + 1 < _; simp; done) | (simp; done) | (simp; omega)) _) (by first | (show w.heap.size + 1 < _; simp; done) | (simp; done) | (simp; omega)) _) (by first | (show w.heap.size + 1 < _; simp; done) | (simp; done) | (simp; omega)) _) (by simp; omega), ?_⟩
  exact ((((((((hb.setCell (by first | (show w.heap.size ≤ w.heap.size + 1; omega) | (show w.heap.size ≤ w.heap.size + 1 + 1; omega)) _).setCell (by first | (show w.heap.size ≤ w.heap.size + 1; omega) | (show w.heap.size ≤ w.heap.size + 1 + 1; omega)) _).setCell (by first | (show w.heap.size ≤ w.heap.size + 1; omega) | (show w.heap.size ≤ w.heap.size + 1 + 1; omega)) _).setCell (by first | (show w.heap.size ≤ w.heap.size + 1; omega) | (show w.heap.size ≤ w.heap.size + 1 + 1; omega)) _).setCell (by first | (show w.heap.size ≤ w.heap.size + 1; omega) | (show w.heap.size ≤ w.heap.size + 1 + 1; omega)) _).setCell (by first | (show w.heap.size ≤ w.heap.size + 1; omega) | (show w.heap.size ≤ w.heap.size + 1 + 1; omega)) _).setCell (by first | (show w.heap.size ≤ w.heap.size + 1; omega) | (show w.heap.size ≤ w.heap.size + 1 + 1; omega)) _).setCell (by first | (show w.heap.size ≤ w.heap.size + 1; omega) | (show w.heap.size ≤ w.heap.size + 1 + 1; omega)) _)

theorem setCells_run (g : Nat) : ∀ (vs : List Value) (w : World) (o : Nat), w.setCells g o vs = setRun w g o vs
  | [], _, _ => rfl
  | v :: vs, w, o => setCells_run g vs _ _

theorem own_setRow {w : World} {base n g : Nat} {e : TypeId} {size : Nat} {v : Value} {xs : List Value} (h : w.ownsRow base e size v n xs) (hg : g < base) (cs : Array Value) : (w.setRow g cs).ownsRow base e size v n xs := by
  refine ⟨h.1, ?_⟩
  rcases h.2 with hn | ⟨g', cap, cur, rfl, hb, hh, rest⟩
  · exact .inl hn
  · refine .inr ⟨g', cap, cur, rfl, hb, ?_, rest⟩
    unfold World.setRow
    show (w.heap.modify g _)[g']? = _
    rw [Array.getElem?_modify, if_neg (by omega)]
    exact hh
theorem setRun_block (g : Nat) : ∀ (vs : List Value) (w : World) (o k : Nat), k ≠ g → (setRun w g o vs).heap[k]? = w.heap[k]?
  | [], _, _, _, _ => rfl
  | v :: vs, w, o, k, h => (setRun_block g vs _ _ k h).trans (Below.heap_setCell w ⟨g, o, none⟩ v k h)
theorem own_run {base : Nat} {e : TypeId} {size n : Nat} {v : Value} {xs : List Value} {g : Nat} (hg : g < base) : ∀ (vs : List Value) (w : World) (o : Nat), w.ownsRow base e size v n xs → (setRun w g o vs).ownsRow base e size v n xs
  | [], _, _, h => h
  | u :: vs, w, o, h => own_run hg vs _ _ (ownsRow_setCell_below h (a := ⟨g, o, none⟩) hg u)
set_option maxRecDepth 100000 in
set_option maxHeartbeats 2000000 in
theorem toLine_any (gt ep m vd : Int) (u : Value) (g : List Int) (sm : List UInt8) (w : World) (hu : Sl w 1 u (ints g)) (hn : g.length ≤ 1048576) :
    Calls Tryd.prog 37 #[.agg #[.int .i64 gt, .int .i64 ep, .int .i64 m, u, .int .i64 vd, .string ⟨sm.toArray⟩]] w fun e w' => ∃ v, e = .returned (.agg #[.int .i64 gt, .int .i64 ep, .int .i64 m, v, .int .i64 vd, .string ⟨sm.toArray⟩]) ∧ w'.ownsRow w.heap.size 3 1 v g.length (ints g).flatten ∧ Below w.heap.size w w' := by
  have hu0 := hu
  obtain ⟨A, n, c, rfl, hA⟩ := hu
  clear hA
  obtain ⟨w0, hw0⟩ : ∃ w0, w0 = ((w.alloc (.cells #[.int .i64 gt, .int .i64 ep, .int .i64 m, .slice A n c, .int .i64 vd, .string ⟨sm.toArray⟩] 70)).alloc (.cells #[.int .i64 0, .int .i64 0, .int .i64 0, .slice none 0 0, .int .i64 0, .string ⟨#[]⟩] 32)).alloc (.cells #[.int .i64 0, .int .i64 0, .int .i64 0, .slice none 0 0, .int .i64 0, .string ⟨#[]⟩] 32) := ⟨_, rfl⟩
  have b0 : Below w.heap.size w w0 := by rw [hw0]; go_grown
  have z0 : w0.heap.size = w.heap.size + 1 + 1 + 1 := by rw [hw0]; simp
  have P0 : Blk w0 w.heap.size 70 #[.int .i64 gt, .int .i64 ep, .int .i64 m, .slice A n c, .int .i64 vd, .string ⟨sm.toArray⟩] := by rw [hw0]; exact ((Blk.new _ _ _).alloc _).alloc _
  have Q0 : Blk w0 (w.heap.size + 1) 32 #[.int .i64 0, .int .i64 0, .int .i64 0, .slice none 0 0, .int .i64 0, .string ⟨#[]⟩] := by
    rw [hw0]
    have := Blk.new (w.alloc (.cells #[.int .i64 gt, .int .i64 ep, .int .i64 m, .slice A n c, .int .i64 vd, .string ⟨sm.toArray⟩] 70)) 32 #[.int .i64 0, .int .i64 0, .int .i64 0, .slice none 0 0, .int .i64 0, .string ⟨#[]⟩]
    rw [World.size_alloc] at this
    exact this.alloc _
  have R0 : Blk w0 (w.heap.size + 1 + 1) 32 #[.int .i64 0, .int .i64 0, .int .i64 0, .slice none 0 0, .int .i64 0, .string ⟨#[]⟩] := by
    rw [hw0]
    have := Blk.new ((w.alloc (.cells #[.int .i64 gt, .int .i64 ep, .int .i64 m, .slice A n c, .int .i64 vd, .string ⟨sm.toArray⟩] 70)).alloc (.cells #[.int .i64 0, .int .i64 0, .int .i64 0, .slice none 0 0, .int .i64 0, .string ⟨#[]⟩] 32)) 32 #[.int .i64 0, .int .i64 0, .int .i64 0, .slice none 0 0, .int .i64 0, .string ⟨#[]⟩]
    rw [World.size_alloc, World.size_alloc] at this
    exact this
  have HS := Lib.hid (hu0.below b0); have HW0 := Lib.hid hw0; have HB0 := Lib.hid b0; have HZ0 := Lib.hid z0
  have HP0 := Lib.hid P0; have HQ0 := Lib.hid Q0; have HR0 := Lib.hid R0
  clear hu0 hw0 b0 z0 P0 Q0 R0
  go_enter Tryd.func37, Tryd.ntmps37
  go_wp2_with fail
  rw [← HW0.out]
  refine (toTold_any gt ep m vd _ g _ HS.out hn).mono ?_; rintro e1 w1 ⟨v1, rfl, o1, b1⟩
  obtain ⟨A1, n1, k1, rfl, -⟩ := SlA.of_own o1 (ints_len g) (ints_rows g)
  have R1 := HR0.out.below b1 HR0.out.lt
  have HTH : Hid (w1.there (w.heap.size + 1 + 1) 0 5) := fun j hj => by
    rw [Nat.zero_add]
    obtain ⟨v, hv⟩ := R1.some_ (i := j) (by simp; omega)
    exact ⟨by rw [hv]; rfl, R1.frozen j⟩
  have hi5 : (Tryd.prog.info? 30).map (·.size) = some 5 := by kernel_rfl
  have hi6 : (Tryd.prog.info? 32).map (·.size) = some 6 := by kernel_rfl
  have HI5 := Lib.hid hi5; have HI6 := Lib.hid hi6; have HR1 := Lib.hid R1; have HB1 := Lib.hid b1; have HO1 := Lib.hid o1
  clear hi5 hi6 R1 b1 o1
  go_upto_region 3 with (refine wpList_store_mid rfl 30 (.tmp 7) (.tmp 6) rfl (w.heap.size + 1 + 1) 0 #[.int .i64 gt, .int .i64 ep, .int .i64 m, .slice A1 n1 k1, .int .i64 vd] rfl rfl HTH.out HI5.out (by simp [Value.oneCell']) ?_)
  obtain ⟨w2, hw2⟩ : ∃ w2, w2 = w1.setCells (w.heap.size + 1 + 1) 0 [.int .i64 gt, .int .i64 ep, .int .i64 m, .slice A1 n1 k1, .int .i64 vd] := ⟨_, rfl⟩
  have l1 : w.heap.size + 1 + 1 < w0.heap.size := HR0.out.lt
  have R2 : Blk w2 (w.heap.size + 1 + 1) 32 #[.int .i64 gt, .int .i64 ep, .int .i64 m, .slice A1 n1 k1, .int .i64 vd, .string ⟨#[]⟩] := by
    rw [hw2, setCells_run]
    exact Blk.run _ _ _ _ HR1.out
  have O2 : w2.ownsRow w0.heap.size 3 1 (.slice A1 n1 k1) g.length (ints g).flatten := by
    rw [hw2, setCells_run]
    exact own_run l1 _ _ _ HO1.out
  have B2 : Below w.heap.size w w2 := by
    rw [hw2, setCells_run]
    exact below_run (by omega) _ _ _ (HB0.out.trans (HB1.out.mono HB0.out.size))
  have P2 : Blk w2 w.heap.size 70 #[.int .i64 gt, .int .i64 ep, .int .i64 m, .slice A n c, .int .i64 vd, .string ⟨sm.toArray⟩] := by
    rw [hw2, setCells_run]
    exact (setRun_block _ _ _ _ _ (by omega)).trans (HP0.out.below HB1.out HP0.out.lt)
  have Q2 : Blk w2 (w.heap.size + 1) 32 #[.int .i64 0, .int .i64 0, .int .i64 0, .slice none 0 0, .int .i64 0, .string ⟨#[]⟩] := by
    rw [hw2, setCells_run]
    exact (setRun_block _ _ _ _ _ (by omega)).trans (HQ0.out.below HB1.out HQ0.out.lt)
  rw [← hw2]
  have p5 := (show _ = some (Value.string ⟨sm.toArray⟩) from P2.cell 5)
  have r5 := (show _ = some (Value.string ⟨#[]⟩) from R2.cell 5)
  have f5 := R2.frozen 5
  have HR3 : Hid (Blk (w2.setCell ⟨w.heap.size + 1 + 1, 5, none⟩ (.string ⟨sm.toArray⟩)) (w.heap.size + 1 + 1) 32 #[.int .i64 gt, .int .i64 ep, .int .i64 m, .slice A1 n1 k1, .int .i64 vd, .string ⟨sm.toArray⟩]) := R2.set_ 5 (.string ⟨sm.toArray⟩)
  have HQ3 := Lib.hid (Q2.far (p := ⟨w.heap.size + 1 + 1, 5, none⟩) (by simp) (.string ⟨sm.toArray⟩))
  have HO2 := Lib.hid O2; have HB2 := Lib.hid B2
  clear hw2 R2 O2 B2 P2 Q2
  go_upto_region 4 with (fail)
  obtain ⟨w3, hw3⟩ : ∃ w3, w3 = w2.setCell ⟨w.heap.size + 1 + 1, 5, none⟩ (.string ⟨sm.toArray⟩) := ⟨_, rfl⟩
  rw [← hw3]
  rw [← hw3] at HR3 HQ3
  have HO3 := Lib.hid (show w3.ownsRow w0.heap.size 3 1 (.slice A1 n1 k1) g.length (ints g).flatten by rw [hw3]; exact ownsRow_setCell_below HO2.out l1 _)
  have HB3 := Lib.hid (show Below w.heap.size w w3 by rw [hw3]; exact HB2.out.setCell (by show w.heap.size ≤ w.heap.size + 1 + 1; omega) _)
  clear hw3 p5 r5 f5
  go_wp2_with (first
    | (refine wpList_load_row rfl 32 (.tmp 3) rfl (w.heap.size + 1 + 1) rfl _ _ _ _ HR3.out Tryd.underlying32 rfl HI6.out ?_)
    | (refine wpList_store_row rfl 32 (.tmp 2) (.tmp 11) rfl (w.heap.size + 1) _ rfl rfl _ _ HQ3.out HI6.out rfl (by simp [Value.oneCell']) ?_))
  have hE := Blk.setRow_ HQ3.out #[.int .i64 gt, .int .i64 ep, .int .i64 m, .slice A1 n1 k1, .int .i64 vd, .string ⟨sm.toArray⟩]
  refine bodyPost_ret (v := .agg #[.int .i64 gt, .int .i64 ep, .int .i64 m, .slice A1 n1 k1, .int .i64 vd, .string ⟨sm.toArray⟩]) (results_cell_row rfl _ _ (w.heap.size + 1) _ _ _ _ rfl hE Tryd.underlying32 rfl HI6.out) rfl ⟨_, rfl, own_base (own_setRow HO3.out (by omega) _) HB0.out.size, below_setRow HB3.out (by omega) _⟩
end Go.Proofs.YtaieopdfkapgdaaDoor

-- The laws' helpers on books: eqTold, eqLine, of two that are the same.
namespace Go.Proofs.YtaieopdfkapgdaaDoor
open Go.RowKit
set_option linter.unusedSimpArgs false
set_option linter.unusedVariables false

set_option maxHeartbeats 1000000 in
theorem eqTold_same (gt ep m vd : Int) (u v : Value) (g : List Int) (w : World) (hu : Sl w 1 u (ints g)) (hv : Sl w 1 v (ints g)) :
    Calls Tryd.prog 24 #[.agg #[.int .i64 gt, .int .i64 ep, .int .i64 m, u, .int .i64 vd], .agg #[.int .i64 gt, .int .i64 ep, .int .i64 m, v, .int .i64 vd]] w fun e w' => e = .returned (.bool true) ∧ Below w.heap.size w w' := by
  have hu0 := hu; have hv0 := hv
  obtain ⟨A, k, c, rfl, hA⟩ := hu
  obtain ⟨A', k', c', rfl, hA'⟩ := hv
  clear hA hA'
  obtain ⟨w0, hw0⟩ : ∃ w0, w0 = (w.alloc (.cells #[.int .i64 gt, .int .i64 ep, .int .i64 m, .slice A k c, .int .i64 vd] 30)).alloc (.cells #[.int .i64 gt, .int .i64 ep, .int .i64 m, .slice A' k' c', .int .i64 vd] 30) := ⟨_, rfl⟩
  have b0 : Below w.heap.size w w0 := by rw [hw0]; go_grown
  have P0 : Blk w0 w.heap.size 30 #[.int .i64 gt, .int .i64 ep, .int .i64 m, .slice A k c, .int .i64 vd] := by rw [hw0]; exact (Blk.new _ _ _).alloc _
  have Q0 : Blk w0 (w.heap.size + 1) 30 #[.int .i64 gt, .int .i64 ep, .int .i64 m, .slice A' k' c', .int .i64 vd] := by
    rw [hw0]
    have := Blk.new (w.alloc (.cells #[.int .i64 gt, .int .i64 ep, .int .i64 m, .slice A k c, .int .i64 vd] 30)) 30 #[.int .i64 gt, .int .i64 ep, .int .i64 m, .slice A' k' c', .int .i64 vd]
    rwa [World.size_alloc] at this
  have HW0 := Lib.hid hw0; have HB0 := Lib.hid b0; have HP0 := Lib.hid P0; have HQ0 := Lib.hid Q0
  have HU := Lib.hid (hu0.below b0); have HV := Lib.hid (hv0.below b0)
  have he : callEq m m g g = true := callEq_iff.2 ⟨rfl, rfl⟩
  have HE := Lib.hid he
  have hgg : (gt != gt) = false := by simp
  have hee : (ep != ep) = false := by simp
  have hvv : (vd != vd) = false := by simp
  clear hw0 b0 P0 Q0 hu0 hv0 he
  go_enter Tryd.func24, Tryd.ntmps24
  go_wp2_with fail
  rw [← HW0.out]
  refine (eqCall_any m m _ _ g g _ HU.out HV.out).mono ?_; rintro e w1 ⟨rfl, b1⟩
  rw [HE.out]
  have p4 := (show _ = some (Value.int .i64 vd) from (HP0.out.below b1 HP0.out.lt).cell 4)
  have q4 := (show _ = some (Value.int .i64 vd) from (HQ0.out.below b1 HQ0.out.lt).cell 4)
  go_wp2
  go_ret
  exact ⟨rfl, HB0.out.trans (b1.mono HB0.out.size)⟩

set_option maxHeartbeats 1000000 in
theorem eqLine_same (gt ep m vd : Int) (u v : Value) (g : List Int) (sm : List UInt8) (w : World) (hu : Sl w 1 u (ints g)) (hv : Sl w 1 v (ints g)) :
    Calls Tryd.prog 38 #[.agg #[.int .i64 gt, .int .i64 ep, .int .i64 m, u, .int .i64 vd, .string ⟨sm.toArray⟩], .agg #[.int .i64 gt, .int .i64 ep, .int .i64 m, v, .int .i64 vd, .string ⟨sm.toArray⟩]] w fun e w' => e = .returned (.bool true) ∧ Below w.heap.size w w' := by
  have hu0 := hu; have hv0 := hv
  obtain ⟨A, k, c, rfl, hA⟩ := hu
  obtain ⟨A', k', c', rfl, hA'⟩ := hv
  clear hA hA'
  obtain ⟨w0, hw0⟩ : ∃ w0, w0 = (w.alloc (.cells #[.int .i64 gt, .int .i64 ep, .int .i64 m, .slice A k c, .int .i64 vd, .string ⟨sm.toArray⟩] 32)).alloc (.cells #[.int .i64 gt, .int .i64 ep, .int .i64 m, .slice A' k' c', .int .i64 vd, .string ⟨sm.toArray⟩] 32) := ⟨_, rfl⟩
  have b0 : Below w.heap.size w w0 := by rw [hw0]; go_grown
  have P0 : Blk w0 w.heap.size 32 #[.int .i64 gt, .int .i64 ep, .int .i64 m, .slice A k c, .int .i64 vd, .string ⟨sm.toArray⟩] := by rw [hw0]; exact (Blk.new _ _ _).alloc _
  have Q0 : Blk w0 (w.heap.size + 1) 32 #[.int .i64 gt, .int .i64 ep, .int .i64 m, .slice A' k' c', .int .i64 vd, .string ⟨sm.toArray⟩] := by
    rw [hw0]
    have := Blk.new (w.alloc (.cells #[.int .i64 gt, .int .i64 ep, .int .i64 m, .slice A k c, .int .i64 vd, .string ⟨sm.toArray⟩] 32)) 32 #[.int .i64 gt, .int .i64 ep, .int .i64 m, .slice A' k' c', .int .i64 vd, .string ⟨sm.toArray⟩]
    rwa [World.size_alloc] at this
  have HW0 := Lib.hid hw0; have HB0 := Lib.hid b0; have HP0 := Lib.hid P0; have HQ0 := Lib.hid Q0
  have HU := Lib.hid (hu0.below b0); have HV := Lib.hid (hv0.below b0)
  have hss : (sm != sm) = false := by simp
  have hss2 : (sm == sm) = true := by simp
  clear hw0 b0 P0 Q0 hu0 hv0
  go_enter Tryd.func38, Tryd.ntmps38
  go_wp2_with fail
  rw [← HW0.out]
  refine (eqTold_same gt ep m vd _ _ g _ HU.out HV.out).mono ?_; rintro e w1 ⟨rfl, b1⟩
  have p5 := (show _ = some (Value.string ⟨sm.toArray⟩) from (HP0.out.below b1 HP0.out.lt).cell 5)
  have q5 := (show _ = some (Value.string ⟨sm.toArray⟩) from (HQ0.out.below b1 HQ0.out.lt).cell 5)
  go_wp2
  go_ret
  exact ⟨rfl, HB0.out.trans (b1.mono HB0.out.size)⟩
end Go.Proofs.YtaieopdfkapgdaaDoor

-- The laws' helpers on books: toLineS.
namespace Go.Proofs.YtaieopdfkapgdaaDoor
open Go.RowKit
set_option linter.unusedSimpArgs false
set_option linter.unusedVariables false

theorem info_Line : (Tryd.prog.info? 32).map (fun i => (i.zero, i.size, i.bytes)) = some (some (.agg #[.int .i64 0, .int .i64 0, .int .i64 0, .slice none 0 0, .int .i64 0, .string ⟨#[]⟩]), 6, 72) := by kernel_rfl
/-- The cells of a line. -/
def lnC (ln : Ln) (av : Value) : List Value := [.int .i64 ln.told.gate, .int .i64 ln.told.epoch, .int .i64 ln.told.num, av, .int .i64 ln.told.verdict, .string ⟨ln.sum.toArray⟩]
/-- The first lines stand in a block, each with arguments of its own behind it. -/
def LnsTo (w : World) (g : Nat) (b : List Ln) (k : Nat) : Prop :=
  ∃ (cur : Array Value) (avs : List Value), Blk w g 32 cur ∧ cur.size = b.length * 6 ∧ avs.length = k ∧
    ∀ (j : Nat) (ln : Ln) (av : Value), b[j]? = some ln → avs[j]? = some av → (∀ (i : Nat) (v : Value), (lnC ln av)[i]? = some v → cur[j * 6 + i]? = some v) ∧ w.ownsRow (g + 1) 3 1 av ln.told.args.length (ints ln.told.args).flatten
theorem lnC_len (ln : Ln) (av : Value) : (lnC ln av).length = 6 := rfl
theorem LnsTo.below {w w' : World} {g : Nat} {b : List Ln} {k : Nat} (h : LnsTo w g b k) (hb : Below w.heap.size w w') : LnsTo w' g b k := by
  obtain ⟨cur, avs, h1, h2, h3, h4⟩ := h
  exact ⟨cur, avs, h1.below hb h1.lt, h2, h3, fun j ln av e1 e2 => ⟨(h4 j ln av e1 e2).1, own_below (h4 j ln av e1 e2).2 hb⟩⟩
theorem LnsTo.lt {w : World} {g : Nat} {b : List Ln} {k : Nat} (h : LnsTo w g b k) : g < w.heap.size := by
  obtain ⟨cur, avs, h1, _⟩ := h; exact h1.lt
theorem LnsTo.next {w : World} {g : Nat} {b : List Ln} {k : Nat} {ln : Ln} {av : Value} (h : LnsTo w g b k) (hk : b[k]? = some ln) (ho : w.ownsRow (g + 1) 3 1 av ln.told.args.length (ints ln.told.args).flatten) : LnsTo (setRun w g (k * 6) (lnC ln av)) g b (k + 1) := by
  obtain ⟨cur, avs, h1, h2, h3, h4⟩ := h
  have hkl := (List.getElem?_eq_some_iff.1 hk).1
  refine ⟨setArr cur (k * 6) (lnC ln av), avs ++ [av], h1.run _ _ _ _, (setArr_size _ _ _).trans h2, by simp [h3], fun j ln' av' e1 e2 => ?_⟩
  by_cases hj : j < k
  · rw [List.getElem?_append_left (by omega)] at e2
    refine ⟨fun i v hv => ?_, own_run (by omega) _ _ _ (h4 j ln' av' e1 e2).2⟩
    have hi : i < 6 := by have := (List.getElem?_eq_some_iff.1 hv).1; rwa [lnC_len] at this
    rw [setArr_out _ _ _ _ (.inl (by omega))]
    exact (h4 j ln' av' e1 e2).1 i v hv
  · have hjk : j = k := by have := (List.getElem?_eq_some_iff.1 e2).1; simp [h3] at this; omega
    subst hjk
    rw [List.getElem?_append_right (by omega), h3, Nat.sub_self] at e2
    simp at e2
    subst e2
    obtain rfl := Option.some.inj (hk.symm.trans e1)
    exact ⟨fun i v hv => setArr_in _ _ _ i v hv (by rw [lnC_len, h2]; omega), own_run (by omega) _ _ _ ho⟩

theorem store6mid {ops : Array Oper} {rest : List Oper} {o : Oper} {a : Act} {w : World} {Q : Exit → Act → World → Prop} (hgd : o.guard = none) (x y : Operand) (ho : o.op = .store 32 x y)
    (g i : Nat) (ln : Ln) (av : Value) (hx : a.eval x = .pointer (some ⟨g, i, none⟩)) (hy : a.eval y = .agg #[.int .i64 ln.told.gate, .int .i64 ln.told.epoch, .int .i64 ln.told.num, av, .int .i64 ln.told.verdict, .string ⟨ln.sum.toArray⟩]) (hav : ∃ A n c, av = .slice A n c) (ht : w.there g i 6)
    (h : wpList Tryd.prog ops Q rest (a.put o.dst undef) (setRun w g i (lnC ln av))) : wpList Tryd.prog ops Q (o :: rest) a w :=
  wpList_store_mid hgd 32 x y ho g i _ hx hy ht (by kernel_rfl) (by obtain ⟨A, n, c, rfl⟩ := hav; simp [Value.oneCell']) (by rw [setCells_run]; exact h)

set_option maxRecDepth 100000 in
set_option maxHeartbeats 2000000 in
theorem toLineS_any (v : Value) (b : List Ln) (w : World) (hb : BookIs w v b) (hn : b.length ≤ 1048576) (hsz : ∀ ln ∈ b, ln.told.args.length ≤ 1048576) :
    Calls Tryd.prog 14 #[v] w fun e w' => ∃ c, e = .returned (.slice (some ⟨w.heap.size, 0, none⟩) b.length c) ∧ c = b.length ∧ LnsTo w' w.heap.size b b.length ∧ Below w.heap.size w w' := by
  obtain ⟨A, n, c, css, rfl, hA, hcl, hli⟩ := hb
  have hbn : b.length = n := by have := hA.len; omega
  have hcp := hA.cap
  have hmx := hA.max
  unfold maxLen at hmx
  rw [hbn] at hn ⊢
  have hmk := fun W => run_make_rowN (P := Tryd.prog) 23 32 _ 6 72 Tryd.underlying23 info_Line .i64 n (by omega) (by omega) W
  have HA := Lib.hid hA; have HLI := Lib.hid hli; have HCL := Lib.hid hcl; have HN := Lib.hid hbn; have HSZ := Lib.hid hsz
  clear hA hli hcl hbn hsz
  go_enter Tryd.func14, Tryd.ntmps14
  go_wp2
  go_loopw [4] (fun i wr => ∃ k : Nat, k ≤ n ∧ i = .int .i64 k ∧ Hid (LnsTo wr w.heap.size b k) ∧ Below w.heap.size w wr) (fun i _ => n - (intOf i).toNat)
  case atStart => exact ⟨0, by omega, rfl, Lib.hid ⟨_, [], Blk.new _ _ _, by rw [size_madeCells, HN.out], rfl, fun j ln av _ e2 => by simp at e2⟩, by go_grown⟩
  case round =>
    obtain ⟨k, hk, rfl, HL, hb⟩ := hrel
    by_cases hlt : k < n
    · obtain ⟨g, off, ln, av, rfl, hg, hbk, hs, hok, x0, x1, x2, x3, x4, x5⟩ := book_get HA.out HCL.out HLI.out hlt
      have y0 := (hb.cell (p := ⟨g, off + k * 6, none⟩) hg).trans x0
      have y1 := (hb.cell (p := ⟨g, off + k * 6 + 1, none⟩) hg).trans x1
      have y2 := (hb.cell (p := ⟨g, off + k * 6 + 2, none⟩) hg).trans x2
      have y3 := (hb.cell (p := ⟨g, off + k * 6 + 3, none⟩) hg).trans x3
      have y4 := (hb.cell (p := ⟨g, off + k * 6 + 4, none⟩) hg).trans x4
      have y5 := (hb.cell (p := ⟨g, off + k * 6 + 5, none⟩) hg).trans x5
      have HM := Lib.hid (HSZ.out ln (List.mem_of_getElem? hbk))
      obtain ⟨⟨gt, ep, nm, xs, vd⟩, sm⟩ := ln
      simp only at y0 y1 y2 y3 y4 y5 hs hok
      have HBK := Lib.hid hbk
      have HS := Lib.hid (hs.below hb)
      obtain ⟨A2, n2, c2, rfl, hA2⟩ := hs
      have kn : (k : Int) < n := by omega
      have HLT := Lib.hid hlt
      have hgl := HL.out.lt
      clear x0 x1 x2 x3 x4 x5 hbk hok hlt hk hA2
      go_wp2_with fail
      refine (toLine_any gt ep nm vd _ xs sm _ HS.out HM.out).mono ?_; rintro e w2 ⟨v2, rfl, o2, b2⟩
      obtain ⟨A3, n3, c3, rfl, -⟩ := SlA.of_own o2 (ints_len xs) (ints_rows xs)
      have HL2 := Lib.hid ((HL.out.below b2).next HBK.out (own_base o2 (by omega)))
      have HT : Hid (w2.there w.heap.size (k * 6) 6) := fun j hj => by
        obtain ⟨cur, avs, h1, h2, _⟩ := HL.out.below b2
        obtain ⟨v, hv⟩ := h1.some_ (i := k * 6 + j) (by rw [h2, HN.out]; have := HLT.out; omega)
        exact ⟨by rw [hv]; rfl, h1.frozen _⟩
      have HB2 := Lib.hid (below_then hb b2)
      clear o2 b2 y0 y1 y2 y3 y4 y5
      simp only []
      iterate 4 go_step
      refine store6mid rfl (.tmp 21) (.tmp 20) rfl w.heap.size (k * 6) ⟨⟨gt, ep, nm, xs, vd⟩, sm⟩ (.slice A3 n3 c3) rfl rfl ⟨_, _, _, rfl⟩ HT.out ?_
      go_wp2
      have hk := HLT.out
      refine ⟨⟨k + 1, by omega, by go_num, HL2, ?_⟩, by simp [intOf]; omega⟩
      exact below_run (Nat.le_refl _) _ _ _ HB2.out
    · obtain rfl : k = n := by omega
      go_wp2
      go_ret
      exact ⟨_, rfl, rfl, HL.out, hb⟩
end Go.Proofs.YtaieopdfkapgdaaDoor
