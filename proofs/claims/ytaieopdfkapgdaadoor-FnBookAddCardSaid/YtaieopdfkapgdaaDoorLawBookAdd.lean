/- laws.FnBookAdd returns true whatever the letters. -/
import Derived.Test.YtaieopdfkapgdaaDoorDrawBook4
import Derived.Test.YtaieopdfkapgdaaDoorDrawBook3
import Derived.Test.YtaieopdfkapgdaaDoorMarkA
namespace Go.Proofs.YtaieopdfkapgdaaDoor
open Go.RowKit
set_option linter.unusedSimpArgs false
set_option linter.unusedVariables false

theorem SlA.take {w : World} {size : Nat} {A : Option Addr} {n c k : Nat} {cs : List (List Value)} (h : SlA w size A n c cs) (hk : k ≤ n) : SlA w size A k c (cs.take k) := by
  have h1 := h.len; have h2 := h.cap; have h3 := h.max
  refine ⟨by simp; omega, by omega, h3, fun h0 => ?_⟩
  obtain ⟨b, off, e, hb, he⟩ := h.at_ (by omega)
  refine ⟨b, off, e, hb, fun i r hr j v hv => he i r ?_ j v hv⟩
  rw [List.getElem?_take] at hr
  split at hr
  · exact hr
  · cases hr
theorem BookIs.take {w : World} {A : Option Addr} {n c k : Nat} {b : List Ln} (h : BookIs w (.slice A n c) b) (hk : k ≤ n) : BookIs w (.slice A k c) (b.take k) := by
  obtain ⟨A', n', c', css, e, hA, hl, hi⟩ := h
  obtain ⟨rfl, rfl, rfl⟩ : A = A' ∧ n = n' ∧ c = c' := by simpa using e
  refine ⟨A, k, c, css.take k, rfl, hA.take hk, by simp [hl], fun i ln cs e1 e2 => ?_⟩
  rw [List.getElem?_take] at e1 e2
  split at e1
  · rw [if_pos (by assumption)] at e2
    exact hi i ln cs e1 e2
  · cases e1
theorem BookIs.slice {w : World} {v : Value} {b : List Ln} (h : BookIs w v b) : ∃ A n c, v = .slice A n c ∧ n = b.length ∧ n ≤ c ∧ c ≤ maxLen := by
  obtain ⟨A, n, c, css, rfl, hA, hcl, hli⟩ := h
  have := hA.len
  exact ⟨A, n, c, rfl, by omega, hA.cap, hA.max⟩

/-- What one line more counts to. -/
theorem addTo_good {b : List Ln} {t : Tl} (h : addB b t = true) : bookOk (addTo b t) := by
  obtain ⟨h1, h2, h3⟩ := addB_iff.1 h
  refine ⟨(goodL_append [] b _).2 ⟨h1.1, ?_⟩, by rw [addTo_len]; omega⟩
  exact ⟨h2, rfl, trivial⟩
theorem addTo_count {b : List Ln} {t : Tl} (h : addB b t = true) : bookCount t.gate t.verdict (addTo b t) = bookCount t.gate t.verdict b + 1 := by
  have h1 := addTo_good h
  have h2 := (addB_iff.1 h).1
  unfold bookCount
  rw [if_pos (bookOkB_iff.2 h1), if_pos (bookOkB_iff.2 h2)]
  unfold addTo
  rw [cnt_snoc, if_pos ⟨rfl, rfl⟩]
  push_cast
  rfl
theorem bookCount_le (gate verdict : Int) (b : List Ln) : 0 ≤ bookCount gate verdict b ∧ bookCount gate verdict b ≤ b.length := by
  unfold bookCount
  have := cnt_le gate verdict b
  split <;> omega
theorem addTo_take (b : List Ln) (t : Tl) : (addTo b t).take b.length = b := by simp [addTo]

namespace bookAdd
set_option maxRecDepth 100000 in
set_option maxHeartbeats 8000000 in
theorem walk (v : Value) (ys : List Int) (w : World) (hp : Pow w) (hkw : Kww w) (hs : Sl w 1 v (u8s ys)) (hb : ∀ y ∈ ys, 0 ≤ y ∧ y ≤ 255) :
    Calls Tryd.prog 6 #[v] w fun e w' => e = .returned (.bool true) ∧ Below w.heap.size w w' := by
  have HS := Lib.hid hs; have HP := Lib.hid hp; have HK := Lib.hid hkw; have HY := Lib.hid hb
  obtain ⟨A, n, c, rfl, hA⟩ := hs
  have hnc : n ≤ c := hA.cap
  have hcm : c ≤ 9223372036854775807 := by have := hA.max; unfold maxLen at this; omega
  clear hA hp hkw hb
  by_cases hn : n ≤ 1048576
  · have hn1 : ¬ (1048576 : Int) < n := by omega
    go_enter Tryd.func6, Tryd.ntmps6
    go_wp2_with fail
    refine (DrawBookAdd_any _ ys _ HS.out HY.out).mono ?_; rintro e w1 ⟨u, b, t, av, rfl, hF, hM, hl, hts, hsa, b1⟩
    have hbi := hF.is fun ln h => (hM ln h).ok
    obtain ⟨A1, n1, c1, rfl, hn1b, hnc1, hcm1⟩ := hbi.slice
    have HSA := Lib.hid hsa
    obtain ⟨A2, n2, c2, rfl, -⟩ := hsa
    unfold maxLen at hcm1
    obtain ⟨ra, hra⟩ : ∃ ra, ra = addB b t := ⟨_, rfl⟩
    obtain ⟨rb, hrb⟩ : ∃ rb, rb = addRes b t := ⟨_, rfl⟩
    have HSP := Lib.hid (sBookAdd_res b t rb ra hrb hra); have HIM := Lib.hid (BookAdd_res b t rb ra hrb hra)
    have HRO := Lib.hid (addRes_ok hrb hbi.ok hts.ok)
    have HT := Lib.hid hts.ok; have HRA := Lib.hid hra; have HRB := Lib.hid hrb; have HNB := Lib.hid hn1b; have HL := Lib.hid hl
    obtain ⟨W2, hW2⟩ : ∃ W2, W2 = w1.alloc (.cells #[.int .i64 t.gate, .int .i64 t.epoch, .int .i64 t.num, .slice A2 n2 c2, .int .i64 t.verdict] 30) := ⟨_, rfl⟩
    have b2 : Below w1.heap.size w1 W2 := by rw [hW2]; go_grown
    have BK : Blk W2 w1.heap.size 30 #[.int .i64 t.gate, .int .i64 t.epoch, .int .i64 t.num, .slice A2 n2 c2, .int .i64 t.verdict] := by rw [hW2]; exact Blk.new _ _ _
    have HW2 := Lib.hid hW2; have HBK2 := Lib.hid BK; have HB2 := Lib.hid (below_then b1 b2)
    have HBI2 := Lib.hid (hbi.below b2); have HSA2 := Lib.hid (HSA.out.below b2)
    have HP2 := Lib.hid (HP.out.below HB2.out); have HK2 := Lib.hid (HK.out.below HB2.out (Nat.le_refl _))
    have hl2 : w1.heap.size < W2.heap.size := BK.lt
    have x0 := (show _ = some (Value.int .i64 t.gate) from BK.cell 0); have x1 := (show _ = some (Value.int .i64 t.epoch) from BK.cell 1); have x2 := (show _ = some (Value.int .i64 t.num) from BK.cell 2); have x3 := (show _ = some (Value.slice A2 n2 c2) from BK.cell 3); have x4 := (show _ = some (Value.int .i64 t.verdict) from BK.cell 4)
    clear hra hrb hW2 BK b1 b2 hbi hF hM hl hts hn1b
    rw [HW2.out] at x0 x1 x2 x3 x4
    go_wp2_with fail
    rw [← HW2.out]
    clear x0 x1 x2 x3 x4
    refine (HIM.out _ _ _ HP2.out HK2.out HBI2.out HT.out HSA2.out).mono ?_; rintro e w3 ⟨b3, ux, rfl, o3⟩
    have HX3 := Lib.hid (o3.is HRO.out)
    obtain ⟨Ax, nx, cx, rfl, hnx, hncx, hcmx⟩ := HX3.out.slice
    unfold maxLen at hcmx
    have HNX := Lib.hid hnx
    have HB3 := Lib.hid (HB2.out.trans (b3.mono HB2.out.size)); have HBI3 := Lib.hid (HBI2.out.below b3); have HSA3 := Lib.hid (HSA2.out.below b3); have HP3 := Lib.hid (HP2.out.below b3); have HK3 := Lib.hid (HK2.out.below b3 (Nat.le_refl _)); have HBK3 := Lib.hid (HBK2.out.below b3 hl2)
    have x0 := (show _ = some (Value.int .i64 t.gate) from HBK3.out.cell 0); have x1 := (show _ = some (Value.int .i64 t.epoch) from HBK3.out.cell 1); have x2 := (show _ = some (Value.int .i64 t.num) from HBK3.out.cell 2); have x3 := (show _ = some (Value.slice A2 n2 c2) from HBK3.out.cell 3); have x4 := (show _ = some (Value.int .i64 t.verdict) from HBK3.out.cell 4)
    have hl3 : w1.heap.size < w3.heap.size := HBK3.out.lt
    clear b3 o3 hnx
    go_wp2_with fail
    clear x0 x1 x2 x3 x4
    refine (HSP.out _ _ _ HBI3.out HT.out HSA3.out).mono ?_; rintro e w4 ⟨b4, uw, rfl, lo, hi, -, -, o4⟩
    have HW4 := Lib.hid (o4.is HRO.out)
    have HB4 := Lib.hid (HB3.out.trans (b4.mono HB3.out.size)); have HBI4 := Lib.hid (HBI3.out.below b4); have HP4 := Lib.hid (HP3.out.below b4); have HK4 := Lib.hid (HK3.out.below b4 (Nat.le_refl _)); have HBK4 := Lib.hid (HBK3.out.below b4 hl3); have HX4 := Lib.hid (HX3.out.below b4)
    have hl4 : w1.heap.size < w4.heap.size := HBK4.out.lt
    clear b4 o4
    have q0 : (ra != ra) = false := by simp
    have q1 : (bookOkB b != bookOkB b) = false := by simp
    go_wp2_with fail
    refine (wgBook_same _ _ rb _ HX4.out HW4.out).mono ?_; rintro e w5 ⟨rfl, b5⟩
    have HB5 := Lib.hid (HB4.out.trans (b5.mono HB4.out.size)); have HBI5 := Lib.hid (HBI4.out.below b5); have HP5 := Lib.hid (HP4.out.below b5); have HK5 := Lib.hid (HK4.out.below b5 (Nat.le_refl _)); have HBK5 := Lib.hid (HBK4.out.below b5 hl4); have HX5 := Lib.hid (HX4.out.below b5)
    have hl5 : w1.heap.size < w5.heap.size := HBK5.out.lt
    clear b5
    go_wp2_with fail
    refine (BookOk_any _ b _ HP5.out HK5.out HBI5.out).mono ?_; rintro e w6 ⟨rfl, b6⟩
    have HB6 := Lib.hid (HB5.out.trans (b6.mono HB5.out.size)); have HBI6 := Lib.hid (HBI5.out.below b6); have HP6 := Lib.hid (HP5.out.below b6); have HK6 := Lib.hid (HK5.out.below b6 (Nat.le_refl _)); have HBK6 := Lib.hid (HBK5.out.below b6 hl5); have HX6 := Lib.hid (HX5.out.below b6)
    have hl6 : w1.heap.size < w6.heap.size := HBK6.out.lt
    clear b6
    go_wp2_with fail
    refine (sBookOk_any _ b _ HBI6.out).mono ?_; rintro e w7 ⟨rfl, b7⟩
    have HB7 := Lib.hid (HB6.out.trans (b7.mono HB6.out.size)); have HBI7 := Lib.hid (HBI6.out.below b7); have HP7 := Lib.hid (HP6.out.below b7); have HK7 := Lib.hid (HK6.out.below b7 (Nat.le_refl _)); have HBK7 := Lib.hid (HBK6.out.below b7 hl6); have HX7 := Lib.hid (HX6.out.below b7)
    have hl7 : w1.heap.size < w7.heap.size := HBK7.out.lt
    clear b7
    cases ra with
    | false =>
      have h0 : nx = 0 := by
        rw [HNX.out, HRB.out]
        unfold addRes
        rw [← HRA.out]
        rfl
      subst h0
      go_wp2
      go_ret
      exact ⟨rfl, HB7.out⟩
    | true =>
      have hrb : rb = addTo b t := by
        rw [HRB.out]
        unfold addRes
        rw [← HRA.out]
        rfl
      have hnx : nx = n1 + 1 := by rw [HNX.out, hrb, addTo_len, ← HNB.out]
      subst hnx
      have HOK := Lib.hid (show bookOkB rb = true by rw [hrb]; exact bookOkB_iff.2 (addTo_good HRA.out.symm))
      have hXT := HX7.out.take (k := n1) (by omega)
      rw [hrb, show (addTo b t).take n1 = b by rw [HNB.out]; exact addTo_take b t] at hXT
      have HXT := Lib.hid hXT
      obtain ⟨M, hM⟩ : ∃ M, M = bookCount t.gate t.verdict b := ⟨_, rfl⟩
      have hM0 := bookCount_le t.gate t.verdict b
      rw [← hM] at hM0
      have HM0 := Lib.hid hM
      have HM1 := Lib.hid (show bookCount t.gate t.verdict rb = M + 1 by rw [hrb, addTo_count HRA.out.symm, hM])
      have hl := HL.out
      have m1 : M + 1 ≤ 42 := by omega
      have m0 : 0 ≤ M := hM0.1
      have e1 : (M + 1 == M + 1) = true := by simp
      have i1 : (n1 : Int) ≤ cx := by omega
      have i2 : (n1 : Int) ≤ n1 + 1 := by omega
      have hz7 := hl7
      clear hM hM0 hXT hrb hl
      go_wp2_with fail
      refine wp_region_fixed (fun w' => Below w7.heap.size w7 w') (by kernel_rfl) (by kernel_rfl) (Below.refl _ _).drew ?_
      iterate 16
        apply wpFx_step
        case h =>
          intro w9 hw
          have H9 := Lib.hid hw
          have K1 := HBK7.out.below hw hl7
          have x0 := (show _ = some (Value.int .i64 t.gate) from K1.cell 0); have x4 := (show _ = some (Value.int .i64 t.verdict) from K1.cell 4)
          clear hw K1
          go_wp2_with (first
            | (go_at_call 9; refine (BookOk_any _ rb _ (HP7.out.below H9.out) (HK7.out.below H9.out (Nat.le_refl _)) (HX7.out.below H9.out)).mono ?_; rintro e w4 ⟨rfl, hbb⟩; rw [HOK.out]; replace H9 := Lib.hid (below_then H9.out hbb); clear hbb)
            | (go_at_call 21; refine (wgBook_same _ _ b _ (HXT.out.below H9.out) (HBI7.out.below H9.out)).mono ?_; rintro e w4 ⟨rfl, hbb⟩; replace H9 := Lib.hid (below_then H9.out hbb); clear hbb)
            | (go_at_call 17; (refine (BookCount_any (.slice Ax (n1 + 1) cx) rb t.gate t.verdict _ (HP7.out.below H9.out) (HK7.out.below H9.out (Nat.le_refl _)) (HX7.out.below H9.out)).mono ?_; rintro e w4 ⟨rfl, hbb⟩; rw [HM1.out]; replace H9 := Lib.hid (below_then H9.out hbb); clear hbb)))
          exact ⟨rfl, rfl, H9.out⟩
      iterate 10
        apply wpFx_step
        case h =>
          intro w9 hw
          have H9 := Lib.hid hw
          have K1 := HBK7.out.below hw hl7
          have x0 := (show _ = some (Value.int .i64 t.gate) from K1.cell 0); have x4 := (show _ = some (Value.int .i64 t.verdict) from K1.cell 4)
          clear hw K1
          go_wp2_with (first
            | (go_at_call 9; refine (BookOk_any _ rb _ (HP7.out.below H9.out) (HK7.out.below H9.out (Nat.le_refl _)) (HX7.out.below H9.out)).mono ?_; rintro e w4 ⟨rfl, hbb⟩; rw [HOK.out]; replace H9 := Lib.hid (below_then H9.out hbb); clear hbb)
            | (go_at_call 21; refine (wgBook_same _ _ b _ (HXT.out.below H9.out) (HBI7.out.below H9.out)).mono ?_; rintro e w4 ⟨rfl, hbb⟩; replace H9 := Lib.hid (below_then H9.out hbb); clear hbb)
            | (go_at_call 17; (refine (BookCount_any (.slice A1 n1 c1) b t.gate t.verdict _ (HP7.out.below H9.out) (HK7.out.below H9.out (Nat.le_refl _)) (HBI7.out.below H9.out)).mono ?_; rintro e w4 ⟨rfl, hbb⟩; rw [← HM0.out]; replace H9 := Lib.hid (below_then H9.out hbb); clear hbb)))
          exact ⟨rfl, rfl, H9.out⟩
      refine wpFx_end (fun w9 hw => ?_)
      have HB9 := Lib.hid (HB7.out.trans (hw.mono HB7.out.size))
      clear hw
      go_wp2
      go_ret
      exact ⟨rfl, HB9.out⟩
  · go_enter Tryd.func6, Tryd.ntmps6
    have hgt : (1048576 : Int) < n := by omega
    go_wp2
    go_ret
    exact ⟨rfl, Below.refl _ _⟩
end bookAdd
end Go.Proofs.YtaieopdfkapgdaaDoor
