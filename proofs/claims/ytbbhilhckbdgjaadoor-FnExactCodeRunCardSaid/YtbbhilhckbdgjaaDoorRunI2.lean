/- impl.CodeRun: the closure that does a place. -/
import Derived.Test.YtbbhilhckbdgjaaDoorRunI
namespace Go.Proofs.YtbbhilhckbdgjaaDoor
open Go.RowKit
set_option linter.unusedSimpArgs false
set_option linter.unusedVariables false

set_option maxHeartbeats 4000000 in
theorem do1_any (x : In4) (left : Int) (hand n : Int) (A1 : Option Addr) (c1 : Nat) (xs : List Int) (Bh Bc : Nat) (w : World) (hx : insOk x left) (h6 : x.op ≠ 6) (hh : Blk w Bh 3 #[.int .i64 hand]) (hc : Blk w Bc 32 #[.int .i64 n, .slice A1 4 c1]) (hne : Bc ≠ Bh) (hA : SlA w 1 A1 4 c1 (ints xs)) :
    Calls Tryd.prog 29 #[.agg #[.int .i64 x.op, .int .i64 x.k, .int .i64 x.yes, .int .i64 x.no], .pointer (some ⟨Bh, 0, none⟩), .pointer (some ⟨Bc, 0, none⟩)] w fun e w' =>
      e = .returned (.int .i64 (leftOf x hand)) ∧ Blk w' Bh 3 #[.int .i64 (handOf n xs x hand)] ∧ w.grownBy w' (some Bh) := by
  have hD := fun W => doingOf_any x W
  have hl := hh.lt
  have hl2 := hc.lt
  obtain ⟨op, k, yes, no⟩ := x
  simp only at h6 hD
  unfold insOk at hx
  simp only at hx
  have HD := Lib.hid hD; have HH := Lib.hid hh; have HC := Lib.hid hc; have HA := Lib.hid hA; clear hD hh hc hA
  have h0 : Below w.heap.size w (w.alloc (.cells #[.int .i64 op, .int .i64 k, .int .i64 yes, .int .i64 no] 41)) := by go_grown
  go_enter Tryd.func29, Tryd.ntmps29
  go_wp2_with fail
  refine (HD.out _).mono ?_; rintro e w1 ⟨rfl, hb1⟩
  have hb01 := below_then h0 hb1
  have hh1 : Blk w1 Bh 3 #[.int .i64 hand] := (hb01.block _ hl).trans HH.out
  have hc1 : Blk w1 Bc 32 #[.int .i64 n, .slice A1 4 c1] := (hb01.block _ hl2).trans HC.out
  have p0 : w1.cell? ⟨Bh, 0, none⟩ = some (.int .i64 hand) := hh1.cell 0
  have q0 : w1.cell? ⟨Bc, 0, none⟩ = some (.int .i64 n) := hc1.cell 0
  have q1 : w1.cell? ⟨Bc, 1, none⟩ = some (.slice A1 4 c1) := hc1.cell 1
  have H1 := Lib.hid hh1; clear hh1 hc1
  have fin : ∀ (w2 : World) (v : Int), Below w1.heap.size w1 w2 → Blk (w2.setCell ⟨Bh, 0, none⟩ (.int .i64 v)) Bh 3 #[.int .i64 v] ∧ w.grownBy (w2.setCell ⟨Bh, 0, none⟩ (.int .i64 v)) (some Bh) ∧ w2.cell? ⟨Bh, 0, none⟩ = some (.int .i64 hand) ∧ w2.frozen? ⟨Bh, 0, none⟩ = false := fun w2 v hb => by
    have hz := hb01.size
    have hB : Blk w2 Bh 3 #[.int .i64 hand] := (hb.block _ (by omega)).trans H1.out
    refine ⟨by simpa using hB.set_ 0 (.int .i64 v), (grown_of_below (below_then hb01 hb) _).trans (grown_set _ _ _ _), hB.cell 0, hB.frozen 0⟩
  have HFIN := Lib.hid fin; clear fin
  by_cases h1 : op = 1
  · subst h1
    have ha : actOf ⟨1, k, yes, no⟩ = .iface 62 (.agg #[.int .i64 k]) := by simp [actOf]
    rw [ha]
    go_wp2_with fail
    refine (loading_do k hand n A1 c1 xs _ (HA.out.below hb01) (by omega)).mono ?_; rintro e w2 ⟨rfl, hb2⟩
    obtain ⟨f1, f2, f3, f4⟩ := HFIN.out w2 (fieldOf n xs k) hb2
    have F1 := Lib.hid f1; have F2 := Lib.hid f2; clear f1 f2
    go_wp2
    go_ret
    exact ⟨by simp [leftOf], by simpa [handOf] using F1.out, by simpa [handOf] using F2.out⟩
  · by_cases h2 : op = 2
    · subst h2
      have ha : actOf ⟨2, k, yes, no⟩ = .iface 64 (.agg #[.int .i64 k]) := by simp [actOf]
      rw [ha]
      go_wp2_with fail
      refine (masking_do k hand (.slice A1 4 c1) n _).mono ?_; rintro e w2 ⟨rfl, hb2⟩
      obtain ⟨f1, f2, f3, f4⟩ := HFIN.out w2 (Go.bits BinOp.and IntKind.i64 hand k) hb2
      have F1 := Lib.hid f1; have F2 := Lib.hid f2; clear f1 f2
      go_wp2
      go_ret
      exact ⟨by simp [leftOf], by simpa [handOf] using F1.out, by simpa [handOf] using F2.out⟩
    · by_cases h5 : op = 5
      · subst h5
        have ha : actOf ⟨5, k, yes, no⟩ = .iface 69 (.agg #[.int .i64 k]) := by simp [actOf]
        rw [ha]
        go_wp2_with fail
        refine (jumping_do k hand A1 c1 n _).mono ?_; rintro e w2 ⟨rfl, hb2⟩
        obtain ⟨f1, f2, f3, f4⟩ := HFIN.out w2 hand hb2
        have F1 := Lib.hid f1; have F2 := Lib.hid f2; clear f1 f2
        go_wp2
        go_ret
        exact ⟨by simp [leftOf], by simpa [handOf] using F1.out, by simpa [handOf] using F2.out⟩
      · have h34 : op = 3 ∨ op = 4 := by omega
        have ha : actOf ⟨op, k, yes, no⟩ = .iface 67 (.agg #[.int .i64 (if op = 3 then 1 else 3), .int .i64 k, .int .i64 yes, .int .i64 no]) := by
          rcases h34 with rfl | rfl <;> simp [actOf]
        have hho : handOf n xs ⟨op, k, yes, no⟩ hand = hand := by unfold handOf; rw [if_neg h1, if_neg h2]
        obtain ⟨lf, hlf⟩ : ∃ lf, leftOf ⟨op, k, yes, no⟩ hand = lf := ⟨_, rfl⟩
        have hdo := looking_do op k yes no hand A1 c1 n
        rw [hlf] at hdo
        obtain ⟨wy, hwy⟩ : ∃ wy : Int, (if op = 3 then 1 else 3) = wy := ⟨_, rfl⟩
        rw [hwy] at hdo ha
        rw [ha]
        have HDO := Lib.hid hdo; have HLF := Lib.hid hlf; have HHO := Lib.hid hho; clear hdo hwy hlf hho ha
        go_wp2_with fail
        refine (HDO.out _ h34).mono ?_; rintro e w2 ⟨rfl, hb2⟩
        obtain ⟨f1, f2, f3, f4⟩ := HFIN.out w2 hand hb2
        have F1 := Lib.hid f1; have F2 := Lib.hid f2; clear f1 f2
        go_wp2
        go_ret
        exact ⟨by rw [HLF.out]; rfl, by rw [HHO.out]; exact F1.out, F2.out⟩
end Go.Proofs.YtbbhilhckbdgjaaDoor
