/- The reference's books: spec.BookOk. -/
import Derived.Test.YtaieopdfkapgdaaDoorBookAA
import Derived.Test.YtaieopdfkapgdaaDoorRelA
namespace Go.Proofs.YtaieopdfkapgdaaDoor
open Go.RowKit
set_option linter.unusedSimpArgs false
set_option linter.unusedVariables false

set_option maxRecDepth 100000 in
set_option maxHeartbeats 4000000 in
theorem sBookOk_any (v : Value) (b : List Ln) (w : World) (hb : BookIs w v b) :
    Calls Tryd.prog 10 #[v] w fun e w' => e = .returned (.bool (bookOkB b)) ∧ Below w.heap.size w w' := by
  obtain ⟨A, n, c, css, rfl, hA, hcl, hli⟩ := hb
  have hn : b.length = n := by have := hA.len; omega
  have hcp := hA.cap
  have hmx := hA.max
  unfold maxLen at hmx
  have HA := Lib.hid hA; have HLI := Lib.hid hli; have HCL := Lib.hid hcl; have HN := Lib.hid hn
  clear hA hli hcl hn
  go_enter Tryd.func10, Tryd.ntmps10
  go_wp2
  go_loopw [3, 4] (fun l i wr => ∃ (k : Nat) (L : List UInt8), k ≤ n ∧ i = .int .i64 k ∧ l = .string ⟨L.toArray⟩ ∧ Hid (L = lastOf [] (b.take k) ∧ goodL [] (b.take k)) ∧ Below w.heap.size w wr) (fun _ i _ => n - (intOf i).toNat)
  case atStart => exact ⟨0, [], by omega, rfl, rfl, Lib.hid ⟨rfl, trivial⟩, Below.refl _ _⟩
  case round =>
    obtain ⟨k, L, hk, rfl, rfl, HG, hb⟩ := hrel
    by_cases hlt : k < n
    · obtain ⟨g, off, ln, av, rfl, hg, hbk, hs, hok, x0, x1, x2, x3, x4, x5⟩ := book_get HA.out HCL.out HLI.out hlt
      have y0 := (hb.cell (p := ⟨g, off + k * 6, none⟩) hg).trans x0
      have y1 := (hb.cell (p := ⟨g, off + k * 6 + 1, none⟩) hg).trans x1
      have y2 := (hb.cell (p := ⟨g, off + k * 6 + 2, none⟩) hg).trans x2
      have y3 := (hb.cell (p := ⟨g, off + k * 6 + 3, none⟩) hg).trans x3
      have y4 := (hb.cell (p := ⟨g, off + k * 6 + 4, none⟩) hg).trans x4
      have y5 := (hb.cell (p := ⟨g, off + k * 6 + 5, none⟩) hg).trans x5
      obtain ⟨⟨gt, ep, nm, xs, vd⟩, sm⟩ := ln
      simp only at y0 y1 y2 y3 y4 y5 hs hok
      have HBK := Lib.hid hbk
      have HSW := Lib.hid (hs.below hb)
      have HOK := Lib.hid hok
      have hav : ∃ A2 n2 c2, av = .slice A2 n2 c2 := by obtain ⟨A2, n2, c2, e, _⟩ := hs; exact ⟨A2, n2, c2, e⟩
      obtain ⟨A2, n2, c2, rfl⟩ := hav
      have kn : (k : Int) < n := by omega
      have k0 : 0 ≤ (k : Int) := by omega
      have HLT := Lib.hid hlt
      have HL64 := Lib.hid (show L.length ≤ 64 by rw [HG.out.1]; exact goodL_last [] _ (by simp) HG.out.2)
      have hgl : g < wr.heap.size := Nat.lt_of_lt_of_le hg hb.size
      obtain ⟨H, hH⟩ : ∃ H, H = lineHash L ⟨gt, ep, nm, xs, vd⟩ := ⟨_, rfl⟩
      have hG5 := @goodL_next [] b k ⟨⟨gt, ep, nm, xs, vd⟩, sm⟩ HBK.out
      rw [← HG.out.1] at hG5
      simp only at hG5
      rw [← hH] at hG5
      have HG5 := Lib.hid hG5
      have HH := Lib.hid hH
      clear x0 x1 x2 x3 x4 x5 hbk hs hok hlt hk hG5 hH
      have HWR := Lib.hid hb
      have HWR := Lib.hid hb
      by_cases hco : callOk nm xs
      · have HCO := Lib.hid (callOkB_iff.2 hco)
        have HCOK := Lib.hid hco
        clear hco hb
        by_cases heq : sm = H
        · have e1 : (sm != H) = false := by rw [heq]; simp
          have e2 : (sm == H) = true := by rw [heq]; simp
          have HEQ := Lib.hid heq
          clear heq
          go_wp2
          refine wp_region_fixed (fun w' => Below wr.heap.size wr w') (by kernel_rfl) (by kernel_rfl) (Below.refl _ _).drew ?_
          iterate 23
            apply wpFx_step
            case h =>
              intro w9 hw
              have H9 := Lib.hid hw
              have z0 := (hw.cell (p := ⟨g, off + k * 6, none⟩) hgl).trans y0
              have z1 := (hw.cell (p := ⟨g, off + k * 6 + 1, none⟩) hgl).trans y1
              have z2 := (hw.cell (p := ⟨g, off + k * 6 + 2, none⟩) hgl).trans y2
              have z3 := (hw.cell (p := ⟨g, off + k * 6 + 3, none⟩) hgl).trans y3
              have z4 := (hw.cell (p := ⟨g, off + k * 6 + 4, none⟩) hgl).trans y4
              have z5 := (hw.cell (p := ⟨g, off + k * 6 + 5, none⟩) hgl).trans y5
              clear hw
              go_wp2_with (first
                | (go_at_call 31; refine (sCallOk_any nm _ xs _ (HSW.out.below H9.out)).mono ?_; rintro e w4 ⟨rfl, hbb⟩; rw [HCO.out]; replace H9 := Lib.hid (below_then H9.out hbb); clear hbb)
                | (go_at_call 32; refine (l15Sum_any L ⟨gt, ep, nm, xs, vd⟩ _ _ HOK.out (HSW.out.below H9.out) (by have := HL64.out; omega)).mono ?_; rintro e w5 ⟨rfl, hbb⟩; rw [← HH.out]; replace H9 := Lib.hid (below_then H9.out hbb); clear hbb))
              exact ⟨rfl, rfl, H9.out⟩
          refine wpFx_end (fun w9 hw => ?_)
          have HB9 := Lib.hid (HWR.out.trans (hw.mono HWR.out.size))
          have z5 := (hw.cell (p := ⟨g, off + k * 6 + 5, none⟩) hgl).trans y5
          clear hw y0 y1 y2 y3 y4 y5
          go_wp2
          have hlt := HLT.out
          exact ⟨⟨k + 1, sm, by omega, by go_num, rfl, Lib.hid ⟨(lastOf_next HBK.out).symm, HG5.out.2 ⟨HG.out.2, HCOK.out, HEQ.out⟩⟩, HB9.out⟩, by simp [intOf]; omega⟩
        · have e1 : (sm != H) = true := by simpa using heq
          have e2 : (sm == H) = false := by simpa using heq
          have HEQ := Lib.hid heq
          clear heq
          go_wp2
          refine wp_region_fixed (fun w' => Below wr.heap.size wr w') (by kernel_rfl) (by kernel_rfl) (Below.refl _ _).drew ?_
          iterate 23
            apply wpFx_step
            case h =>
              intro w9 hw
              have H9 := Lib.hid hw
              have z0 := (hw.cell (p := ⟨g, off + k * 6, none⟩) hgl).trans y0
              have z1 := (hw.cell (p := ⟨g, off + k * 6 + 1, none⟩) hgl).trans y1
              have z2 := (hw.cell (p := ⟨g, off + k * 6 + 2, none⟩) hgl).trans y2
              have z3 := (hw.cell (p := ⟨g, off + k * 6 + 3, none⟩) hgl).trans y3
              have z4 := (hw.cell (p := ⟨g, off + k * 6 + 4, none⟩) hgl).trans y4
              have z5 := (hw.cell (p := ⟨g, off + k * 6 + 5, none⟩) hgl).trans y5
              clear hw
              go_wp2_with (first
                | (go_at_call 31; refine (sCallOk_any nm _ xs _ (HSW.out.below H9.out)).mono ?_; rintro e w4 ⟨rfl, hbb⟩; rw [HCO.out]; replace H9 := Lib.hid (below_then H9.out hbb); clear hbb)
                | (go_at_call 32; refine (l15Sum_any L ⟨gt, ep, nm, xs, vd⟩ _ _ HOK.out (HSW.out.below H9.out) (by have := HL64.out; omega)).mono ?_; rintro e w5 ⟨rfl, hbb⟩; rw [← HH.out]; replace H9 := Lib.hid (below_then H9.out hbb); clear hbb))
              exact ⟨rfl, rfl, H9.out⟩
          refine wpFx_end (fun w9 hw => ?_)
          have HB9 := Lib.hid (HWR.out.trans (hw.mono HWR.out.size))
          have z5 := (hw.cell (p := ⟨g, off + k * 6 + 5, none⟩) hgl).trans y5
          clear hw y0 y1 y2 y3 y4 y5
          go_wp2
          go_ret
          exact ⟨ret_bool (bookOkB_of (by simpa using fun h : bookOk b => HEQ.out (HG5.out.1 (goodL_take h.1 (k + 1))).2.2)), HB9.out⟩
      · have HCO := Lib.hid (show callOkB nm xs = false by rw [← Bool.not_eq_true, callOkB_iff]; exact hco)
        have HCOK := Lib.hid hco
        clear hco hb
        go_wp2
        refine wp_region_fixed (fun w' => Below wr.heap.size wr w') (by kernel_rfl) (by kernel_rfl) (Below.refl _ _).drew ?_
        iterate 23
          apply wpFx_step
          case h =>
            intro w9 hw
            have H9 := Lib.hid hw
            have z0 := (hw.cell (p := ⟨g, off + k * 6, none⟩) hgl).trans y0
            have z1 := (hw.cell (p := ⟨g, off + k * 6 + 1, none⟩) hgl).trans y1
            have z2 := (hw.cell (p := ⟨g, off + k * 6 + 2, none⟩) hgl).trans y2
            have z3 := (hw.cell (p := ⟨g, off + k * 6 + 3, none⟩) hgl).trans y3
            have z4 := (hw.cell (p := ⟨g, off + k * 6 + 4, none⟩) hgl).trans y4
            have z5 := (hw.cell (p := ⟨g, off + k * 6 + 5, none⟩) hgl).trans y5
            clear hw
            go_wp2_with (first
              | (go_at_call 31; refine (sCallOk_any nm _ xs _ (HSW.out.below H9.out)).mono ?_; rintro e w4 ⟨rfl, hbb⟩; rw [HCO.out]; replace H9 := Lib.hid (below_then H9.out hbb); clear hbb)
              | (go_at_call 32; refine (l15Sum_any L ⟨gt, ep, nm, xs, vd⟩ _ _ HOK.out (HSW.out.below H9.out) (by have := HL64.out; omega)).mono ?_; rintro e w5 ⟨rfl, hbb⟩; rw [← HH.out]; replace H9 := Lib.hid (below_then H9.out hbb); clear hbb))
            exact ⟨rfl, rfl, H9.out⟩
        refine wpFx_end (fun w9 hw => ?_)
        have HB9 := Lib.hid (HWR.out.trans (hw.mono HWR.out.size))
        have z5 := (hw.cell (p := ⟨g, off + k * 6 + 5, none⟩) hgl).trans y5
        clear hw y0 y1 y2 y3 y4 y5
        go_wp2
        go_ret
        exact ⟨ret_bool (bookOkB_of (by simpa using fun h : bookOk b => HCOK.out (HG5.out.1 (goodL_take h.1 (k + 1))).2.1)), HB9.out⟩
    · obtain rfl : k = n := by omega
      have hall : b.take k = b := List.take_of_length_le (by rw [HN.out]; exact Nat.le_refl _)
      rw [hall] at HG
      have HLN := Lib.hid (show b.length = k from HN.out)
      clear hall hk hlt
      go_wp2
      go_ret
      refine ⟨ret_bool (bookOkB_of ?_), hb⟩
      rw [decide_eq_true_iff]
      exact ⟨fun h => ⟨HG.out.2, by rw [HLN.out]; omega⟩, fun h => by have := h.2; rw [HLN.out] at this; omega⟩

/-- How many lines are of a gate and a verdict. -/
def cnt (gate verdict : Int) (b : List Ln) : Nat := (b.filter fun ln => decide (ln.told.gate = gate) && decide (ln.told.verdict = verdict)).length
theorem cnt_le (gate verdict : Int) (b : List Ln) : cnt gate verdict b ≤ b.length := List.length_filter_le _ _
theorem cnt_snoc (gate verdict : Int) (b : List Ln) (ln : Ln) : cnt gate verdict (b ++ [ln]) = cnt gate verdict b + if ln.told.gate = gate ∧ ln.told.verdict = verdict then 1 else 0 := by
  unfold cnt
  rw [List.filter_append, List.length_append]
  by_cases h1 : ln.told.gate = gate <;> by_cases h2 : ln.told.verdict = verdict <;> simp [List.filter_cons, h1, h2]
theorem cnt_rev (gate verdict : Int) (b : List Ln) : cnt gate verdict b.reverse = cnt gate verdict b := by
  unfold cnt
  rw [List.filter_reverse, List.length_reverse]
noncomputable def bookCount (gate verdict : Int) (b : List Ln) : Int := if bookOkB b = true then ((cnt gate verdict b : Nat) : Int) else 0

set_option maxRecDepth 100000 in
set_option maxHeartbeats 4000000 in
theorem sBookCount_any (v : Value) (b : List Ln) (gate verdict : Int) (w : World) (hb : BookIs w v b) :
    Calls Tryd.prog 16 #[v, .int .i64 gate, .int .i64 verdict] w fun e w' => e = .returned (.int .i64 (bookCount gate verdict b)) ∧ Below w.heap.size w w' := by
  have HB0 := Lib.hid hb
  obtain ⟨A, n, c, css, rfl, hA, hcl, hli⟩ := hb
  have hn : b.length = n := by have := hA.len; omega
  have hcp := hA.cap
  have hmx := hA.max
  unfold maxLen at hmx
  have HA := Lib.hid hA; have HLI := Lib.hid hli; have HCL := Lib.hid hcl; have HN := Lib.hid hn
  clear hA hli hcl hn
  go_enter Tryd.func16, Tryd.ntmps16
  go_wp2_with fail
  refine (sBookOk_any _ b _ HB0.out).mono ?_; rintro e w1 ⟨rfl, hb1⟩
  by_cases hok : bookOkB b = true
  · have HOK := Lib.hid hok
    rw [hok]
    clear hok
    go_wp2
    go_loop [7, 8] (fun m i => ∃ k : Nat, k ≤ n ∧ i = .int .i64 k ∧ ∃ z : Nat, m = .int .i64 z ∧ z ≤ k ∧ Hid (z = cnt gate verdict (b.take k))) (fun _ i => n - (intOf i).toNat)
    case atStart => exact ⟨0, by omega, rfl, 0, rfl, by omega, Lib.hid rfl⟩
    case round =>
      obtain ⟨k, hk, rfl, z, rfl, hz, HZ⟩ := hrel
      by_cases hlt : k < n
      · obtain ⟨g, off, ln, av, rfl, hg, hbk, hs, hok, x0, x1, x2, x3, x4, x5⟩ := book_get HA.out HCL.out HLI.out hlt
        have y0 := (hb1.cell (p := ⟨g, off + k * 6, none⟩) hg).trans x0
        have y4 := (hb1.cell (p := ⟨g, off + k * 6 + 4, none⟩) hg).trans x4
        have kn : (k : Int) < n := by omega
        have hsn := cnt_snoc gate verdict (b.take k) ln
        have htk : b.take (k + 1) = b.take k ++ [ln] := by rw [List.take_add_one, hbk]; rfl
        rw [← htk, ← HZ.out] at hsn
        have HSN := Lib.hid hsn
        have HLT := Lib.hid hlt
        obtain ⟨⟨gt, ep, nm, xs, vd⟩, sm⟩ := ln
        simp only at y0 y4 hs hok
        clear hsn htk x0 x1 x2 x3 x4 x5 hbk hs hok hlt hk
        by_cases h1 : gt = gate
        · have d1 : (gt == gate) = true := by simpa using h1
          have H1 := Lib.hid h1
          clear h1
          by_cases h2 : vd = verdict
          · have d2 : (vd == verdict) = true := by simpa using h2
            have H2 := Lib.hid h2
            clear h2
            go_wp2
            have hlt := HLT.out
            refine ⟨⟨k + 1, by omega, by go_num, z + 1, by go_num, by omega, Lib.hid ?_⟩, by simp [intOf]; omega⟩
            rw [HSN.out, if_pos ⟨H1.out, H2.out⟩]
          · have d2 : (vd == verdict) = false := by simpa using h2
            have H2 := Lib.hid h2
            clear h2
            go_wp2
            have hlt := HLT.out
            refine ⟨⟨k + 1, by omega, by go_num, z, rfl, by omega, Lib.hid ?_⟩, by simp [intOf]; omega⟩
            rw [HSN.out, if_neg (fun h => H2.out h.2), Nat.add_zero]
        · have d1 : (gt == gate) = false := by simpa using h1
          have H1 := Lib.hid h1
          clear h1
          go_wp2
          have hlt := HLT.out
          refine ⟨⟨k + 1, by omega, by go_num, z, rfl, by omega, Lib.hid ?_⟩, by simp [intOf]; omega⟩
          rw [HSN.out, if_neg (fun h => H1.out h.1), Nat.add_zero]
      · obtain rfl : k = n := by omega
        have hall : b.take k = b := List.take_of_length_le (by rw [HN.out]; exact Nat.le_refl _)
        rw [hall] at HZ
        clear hall hk hlt
        go_wp2
        go_ret
        exact ⟨ret_int (by unfold bookCount; rw [if_pos HOK.out, HZ.out]), hb1⟩
  · have HOK := Lib.hid hok
    have hno : bookOkB b = false := by simpa using hok
    rw [hno]
    clear hok hno
    go_wp2
    go_ret
    exact ⟨ret_int (by unfold bookCount; rw [if_neg HOK.out]), hb1⟩
end Go.Proofs.YtaieopdfkapgdaaDoor
