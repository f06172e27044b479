/- laws.wgBook of two books that are the same. -/
import Derived.Test.YtaieopdfkapgdaaDoorDrawAny
import Derived.Test.YtaieopdfkapgdaaDoorBookAA
import Derived.Test.YtaieopdfkapgdaaDoorRelA
import Derived.RegionTactic
import Derived.BigRegion
namespace Go.Proofs.YtaieopdfkapgdaaDoor
open Go.RowKit
set_option linter.unusedSimpArgs false
set_option linter.unusedVariables false

theorem callEq_self (n : Int) (g : List Int) : callEq n n g g = true := callEq_iff.2 ⟨rfl, rfl⟩

set_option maxRecDepth 100000 in
set_option maxHeartbeats 4000000 in
theorem wgBook_same (v u : Value) (b : List Ln) (w : World) (hv : BookIs w v b) (hu : BookIs w u b) :
    Calls Tryd.prog 21 #[v, u] w fun e w' => e = .returned (.bool true) ∧ Below w.heap.size w w' := by
  obtain ⟨A, n, c, css, rfl, hA, hcl, hli⟩ := hv
  obtain ⟨A', n', c', css', rfl, hA', hcl', hli'⟩ := hu
  have hn : b.length = n := by have := hA.len; omega
  obtain rfl : n' = n := by have := hA'.len; omega
  have hcp := hA.cap
  have hmx := hA.max
  have hcp' := hA'.cap
  have hmx' := hA'.max
  unfold maxLen at hmx hmx'
  have HA := Lib.hid hA; have HLI := Lib.hid hli; have HCL := Lib.hid hcl; have HA' := Lib.hid hA'; have HLI' := Lib.hid hli'; have HCL' := Lib.hid hcl'; have HN := Lib.hid hn
  clear hA hli hcl hA' hli' hcl' hn
  go_enter Tryd.func21, Tryd.ntmps21
  go_wp2
  go_loopw [5] (fun i wr => ∃ k : Nat, k ≤ n' ∧ i = .int .i64 k ∧ Below w.heap.size w wr) (fun i _ => n' - (intOf i).toNat)
  case atStart => exact ⟨0, by omega, rfl, Below.refl _ _⟩
  case round =>
    obtain ⟨k, hk, rfl, hb⟩ := hrel
    by_cases hlt : k < n'
    · obtain ⟨g, off, ln, av, rfl, hg, hbk, hs, hok, x0, x1, x2, x3, x4, x5⟩ := book_get HA.out HCL.out HLI.out hlt
      obtain ⟨g2, off2, ln2, av2, rfl, hg2, hbk2, hs2, hok2, X0, X1, X2, X3, X4, X5⟩ := book_get HA'.out HCL'.out HLI'.out hlt
      obtain rfl := Option.some.inj (hbk.symm.trans hbk2)
      have y0 := (hb.cell (p := ⟨g, off + k * 6, none⟩) hg).trans x0
      have y1 := (hb.cell (p := ⟨g, off + k * 6 + 1, none⟩) hg).trans x1
      have y2 := (hb.cell (p := ⟨g, off + k * 6 + 2, none⟩) hg).trans x2
      have y3 := (hb.cell (p := ⟨g, off + k * 6 + 3, none⟩) hg).trans x3
      have y4 := (hb.cell (p := ⟨g, off + k * 6 + 4, none⟩) hg).trans x4
      have y5 := (hb.cell (p := ⟨g, off + k * 6 + 5, none⟩) hg).trans x5
      have Y0 := (hb.cell (p := ⟨g2, off2 + k * 6, none⟩) hg2).trans X0
      have Y1 := (hb.cell (p := ⟨g2, off2 + k * 6 + 1, none⟩) hg2).trans X1
      have Y2 := (hb.cell (p := ⟨g2, off2 + k * 6 + 2, none⟩) hg2).trans X2
      have Y3 := (hb.cell (p := ⟨g2, off2 + k * 6 + 3, none⟩) hg2).trans X3
      have Y4 := (hb.cell (p := ⟨g2, off2 + k * 6 + 4, none⟩) hg2).trans X4
      have Y5 := (hb.cell (p := ⟨g2, off2 + k * 6 + 5, none⟩) hg2).trans X5
      obtain ⟨⟨gt, ep, nm, xs, vd⟩, sm⟩ := ln
      simp only at y0 y1 y2 y3 y4 y5 Y0 Y1 Y2 Y3 Y4 Y5 hs hs2
      have hgl : g < wr.heap.size := Nat.lt_of_lt_of_le hg hb.size
      have hgl2 : g2 < wr.heap.size := Nat.lt_of_lt_of_le hg2 hb.size
      have HSW := Lib.hid (hs.below hb); have HSW2 := Lib.hid (hs2.below hb)
      obtain ⟨A2, n2, c2, rfl⟩ : ∃ A2 n2 c2, av = .slice A2 n2 c2 := by obtain ⟨A2, n2, c2, e, _⟩ := hs; exact ⟨A2, n2, c2, e⟩
      obtain ⟨A3, n3, c3, rfl⟩ : ∃ A2 n2 c2, av2 = .slice A2 n2 c2 := by obtain ⟨A2, n2, c2, e, _⟩ := hs2; exact ⟨A2, n2, c2, e⟩
      have kn : (k : Int) < n' := by omega
      have k0 : 0 ≤ (k : Int) := by omega
      have HLT := Lib.hid hlt; have HB := Lib.hid hb
      have q0 : (gt != gt) = false := by simp
      have q1 : (ep != ep) = false := by simp
      have q4 : (vd != vd) = false := by simp
      have q5 : (sm != sm) = false := by simp
      obtain ⟨W1, hW1⟩ : ∃ W1, W1 = wr.alloc (.cells #[.int .i64 gt, .int .i64 ep, .int .i64 nm, .slice A2 n2 c2, .int .i64 vd] 30) := ⟨_, rfl⟩
      have B1 : Blk W1 wr.heap.size 30 #[.int .i64 gt, .int .i64 ep, .int .i64 nm, .slice A2 n2 c2, .int .i64 vd] := by rw [hW1]; exact Blk.new _ _ _
      have b1 : Below wr.heap.size wr W1 := by rw [hW1]; go_grown
      have hz1 : W1.heap.size = wr.heap.size + 1 := by rw [hW1]; simp
      obtain ⟨W2, hW2⟩ : ∃ W2, W2 = W1.alloc (.cells #[.int .i64 gt, .int .i64 ep, .int .i64 nm, .slice A3 n3 c3, .int .i64 vd] 30) := ⟨_, rfl⟩
      have B2 : Blk W2 W1.heap.size 30 #[.int .i64 gt, .int .i64 ep, .int .i64 nm, .slice A3 n3 c3, .int .i64 vd] := by rw [hW2]; exact Blk.new _ _ _
      have b2 : Below W1.heap.size W1 W2 := by rw [hW2]; go_grown
      have hz2 : W2.heap.size = W1.heap.size + 1 := by rw [hW2]; simp
      have B12 := B1.below b2 B1.lt
      rw [hz1] at B2
      have hb12 : Below wr.heap.size wr W2 := below_then b1 b2
      have Z0 := (b1.cell (p := ⟨g2, off2 + k * 6, none⟩) hgl2).trans Y0
      have Z1 := (b1.cell (p := ⟨g2, off2 + k * 6 + 1, none⟩) hgl2).trans Y1
      have Z2 := (b1.cell (p := ⟨g2, off2 + k * 6 + 2, none⟩) hgl2).trans Y2
      have Z3 := (b1.cell (p := ⟨g2, off2 + k * 6 + 3, none⟩) hgl2).trans Y3
      have Z4 := (b1.cell (p := ⟨g2, off2 + k * 6 + 4, none⟩) hgl2).trans Y4
      have t5 := (hb12.cell (p := ⟨g, off + k * 6 + 5, none⟩) hgl).trans y5
      have T5 := (hb12.cell (p := ⟨g2, off2 + k * 6 + 5, none⟩) hgl2).trans Y5
      have HW1 := Lib.hid hW1; have HW2 := Lib.hid hW2; have HX := Lib.hid B12; have HY := Lib.hid B2; have HBW := Lib.hid hb12
      have lg : g < W2.heap.size := by omega
      have lg2 : g2 < W2.heap.size := by omega
      have l1 : wr.heap.size < W2.heap.size := by omega
      have l2 : wr.heap.size + 1 < W2.heap.size := by omega
      clear hz1 hz2 x0 x1 x2 x3 x4 x5 X0 X1 X2 X3 X4 X5 hbk hbk2 hs hs2 hok hok2 hlt hk hb hW1 hW2 B1 B2 B12 b1 b2 hb12 Y0 Y1 Y2 Y3 Y4 Y5 y5
      rw [HW1.out] at Z0 Z1 Z2 Z3 Z4
      go_wp2_with fail
      rw [← HW1.out, ← HW2.out]
      clear Z0 Z1 Z2 Z3 Z4 y0 y1 y2 y3 y4
      refine wp_region_fixed (fun w' => Below W2.heap.size W2 w') (by kernel_rfl) (by kernel_rfl) (Below.refl _ _).drew ?_
      iterate 40
        apply wpFx_step
        case h =>
          intro w9 hw
          have H9 := Lib.hid hw
          have z5 := (hw.cell (p := ⟨g, off + k * 6 + 5, none⟩) lg).trans t5
          have Z5 := (hw.cell (p := ⟨g2, off2 + k * 6 + 5, none⟩) lg2).trans T5
          have K1 := HX.out.below hw l1
          have K2 := HY.out.below hw l2
          have p0 := (show _ = some (Value.int .i64 gt) from K1.cell 0); have p1 := (show _ = some (Value.int .i64 ep) from K1.cell 1); have p2 := (show _ = some (Value.int .i64 nm) from K1.cell 2); have p3 := (show _ = some (Value.slice A2 n2 c2) from K1.cell 3); have p4 := (show _ = some (Value.int .i64 vd) from K1.cell 4)
          have r0 := (show _ = some (Value.int .i64 gt) from K2.cell 0); have r1 := (show _ = some (Value.int .i64 ep) from K2.cell 1); have r2 := (show _ = some (Value.int .i64 nm) from K2.cell 2); have r3 := (show _ = some (Value.slice A3 n3 c3) from K2.cell 3); have r4 := (show _ = some (Value.int .i64 vd) from K2.cell 4)
          clear hw K1 K2
          go_wp2_with (go_at_call 46; refine (wgCall_any nm nm _ _ xs xs _ ((HSW.out.below HBW.out).below H9.out) ((HSW2.out.below HBW.out).below H9.out)).mono ?_; rintro e w4 ⟨rfl, hbb⟩; rw [callEq_self]; replace H9 := Lib.hid (below_then H9.out hbb); clear hbb)
          exact ⟨rfl, rfl, H9.out⟩
      refine wpFx_end (fun w9 hw => ?_)
      have HB9 := Lib.hid (HB.out.trans ((below_then HBW.out hw).mono HB.out.size))
      clear hw
      go_wp2
      have hlt := HLT.out
      exact ⟨⟨k + 1, by omega, by go_num, HB9.out⟩, by simp [intOf]; omega⟩
    · obtain rfl : k = n' := by omega
      go_wp2
      go_ret
      exact ⟨rfl, hb⟩
end Go.Proofs.YtaieopdfkapgdaaDoor
