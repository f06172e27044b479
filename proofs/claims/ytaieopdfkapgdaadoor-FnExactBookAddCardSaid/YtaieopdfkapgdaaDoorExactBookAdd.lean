/- FnExactBookAdd returns true for every book and telling, and nothing that was there is changed: the row's statement, and its tied card. No condition but what the row lists: the library's tables and the table of the hash's words hold what their initialisers lay. -/
import Derived.Test.YtaieopdfkapgdaaDoorMarkA
import Derived.Test.YtaieopdfkapgdaaDoorArgLine
import Derived.Test.YtaieopdfkapgdaaDoorFrameV
import Derived.Test.YtaieopdfkapgdaaDoorDoorH
namespace Go.Proofs.YtaieopdfkapgdaaDoor
open Go.RowKit Go.WideShapes Go.ChangeShapes Go.ChangeAt
set_option linter.unusedSimpArgs false
set_option linter.unusedVariables false

namespace exactBookAdd
set_option maxRecDepth 100000 in
set_option maxHeartbeats 16000000 in
theorem walk (v : Value) (b : List Ln) (t : Tl) (av : Value) (w : World) (hp : Pow w) (hkw : Kww w) (hv : BookIs w v b) (hz : ∀ ln ∈ b, ln.told.args.length ≤ 9223372036854775807 ∧ ln.sum.length ≤ 9223372036854775807) (ht : t.ok) (hs : Sl w 1 av (ints t.args)) :
    Calls Tryd.prog 7 #[v, .agg #[.int .i64 t.gate, .int .i64 t.epoch, .int .i64 t.num, av, .int .i64 t.verdict]] w fun e w' => e = .returned (.bool true) ∧ Below w.heap.size w w' := by
  obtain ⟨ra, hra⟩ : ∃ ra, ra = addB b t := ⟨_, rfl⟩
  obtain ⟨rb, hrb⟩ : ∃ rb, rb = addRes b t := ⟨_, rfl⟩
  have HSP := Lib.hid (sBookAdd_res b t rb ra hrb hra); have HIM := Lib.hid (BookAdd_res b t rb ra hrb hra)
  have HRO := Lib.hid (addRes_ok hrb hv.ok ht); have HRN := Lib.hid (addRes_len b t rb hrb); have HRW := Lib.hid (addRes_wt b t rb hrb)
  have hqq : (ra != ra) = false := by simp
  have hv0 := hv; have hs0 := hs
  obtain ⟨A, n, c, css, rfl, -⟩ := hv
  obtain ⟨A2, n2, c2, rfl, hA2⟩ := hs
  have hn2 : t.args.length = n2 := by have := hA2.len; rwa [ints_len] at this
  have hn2b : n2 ≤ 9223372036854775807 := by have := hA2.cap; have h3 := hA2.max; unfold maxLen at h3; omega
  have HN2 := Lib.hid hn2
  obtain ⟨W0, hW0⟩ : ∃ W0, W0 = w.alloc (.cells #[.int .i64 t.gate, .int .i64 t.epoch, .int .i64 t.num, .slice A2 n2 c2, .int .i64 t.verdict] 51) := ⟨_, rfl⟩
  have hb0 : Below w.heap.size w W0 := by rw [hW0]; go_grown
  have BW : Blk W0 w.heap.size 51 #[.int .i64 t.gate, .int .i64 t.epoch, .int .i64 t.num, .slice A2 n2 c2, .int .i64 t.verdict] := by rw [hW0]; exact Blk.new _ _ _
  have HW0 := Lib.hid hW0; have HB0 := Lib.hid hb0; have HBW := Lib.hid BW
  have HVW := Lib.hid hv0; have HSW := Lib.hid hs0; have HPW := Lib.hid hp; have HKW := Lib.hid hkw
  have HV0 := Lib.hid (hv0.below hb0); have HS0 := Lib.hid (hs0.below hb0); have HP0 := Lib.hid (hp.below hb0); have HK0 := Lib.hid (hkw.below hb0 (Nat.le_refl _))
  have hl0 : w.heap.size < W0.heap.size := BW.lt
  have HZ := Lib.hid hz; have HT := Lib.hid ht; have HOK := Lib.hid hv0.ok
  clear hra hrb hW0 hb0 BW hv0 hs0 hp hkw hz ht hA2 hn2
  by_cases hle : ((b.length + lnsSize b : Nat) : Int) ≤ 1048576
  · have HL := Lib.hid (show leftOf 1048576 (b.length + lnsSize b) = 1048576 - ((b.length + lnsSize b : Nat) : Int) by unfold leftOf; rw [if_pos hle])
    have hd : ¬ 1048576 - ((b.length + lnsSize b : Nat) : Int) < 0 := by omega
    have hn : b.length ≤ 1048576 := by omega
    have HSZ := Lib.hid (show ∀ ln ∈ b, ln.told.args.length ≤ 1048576 from fun ln hm => by have := lnsSize_mem hm; have := lnSize_args ln; omega)
    have HWT := Lib.hid (show wtB b ≤ 100000000 by have := wtB_size b; omega)
    have HN := Lib.hid hn; have HMX := Lib.hid (show b.length ≤ maxLen by unfold maxLen; omega)
    obtain ⟨z, hzz⟩ : ∃ z : Int, z = 1048576 - ((b.length + lnsSize b : Nat) : Int) := ⟨_, rfl⟩
    have hz0 : 0 ≤ z := by omega
    have hz1 : z ≤ 1048576 := by omega
    rw [← hzz] at HL hd
    clear hzz hle hn
    by_cases hle2 : (n2 : Int) ≤ z
    · have HL2 := Lib.hid (show leftOf z n2 = z - n2 by unfold leftOf; rw [if_pos hle2])
      have hd2 : ¬ z - (n2 : Int) < 0 := by omega
      have HTN := Lib.hid (show t.args.length ≤ 1048576 by rw [HN2.out]; omega)
      go_enter Tryd.func7, Tryd.ntmps7
      go_wp2_with fail
      rw [← HW0.out]
      refine (szLineS_any _ b 1048576 _ HV0.out (by omega) (by omega) HZ.out).mono ?_; rintro e w1 ⟨rfl, b1⟩
      rw [HL.out]
      have HV1 := Lib.hid (HV0.out.below b1); have HS1 := Lib.hid (HS0.out.below b1); have HP1 := Lib.hid (HP0.out.below b1); have HK1 := Lib.hid (HK0.out.below b1 (Nat.le_refl _)); have HB1 := Lib.hid (below_then HB0.out b1)
      have BW1 := HBW.out.below b1 hl0
      have p0 := (show _ = some (Value.int .i64 t.gate) from BW1.cell 0); have p1 := (show _ = some (Value.int .i64 t.epoch) from BW1.cell 1); have p2 := (show _ = some (Value.int .i64 t.num) from BW1.cell 2); have p3 := (show _ = some (Value.slice A2 n2 c2) from BW1.cell 3); have p4 := (show _ = some (Value.int .i64 t.verdict) from BW1.cell 4)
      have HBW1 := Lib.hid BW1
      have hl1 : w.heap.size < w1.heap.size := BW1.lt
      clear b1 BW1
      go_wp2_with fail
      refine (szTold_any t.gate t.epoch t.num t.verdict A2 n2 c2 z _ hn2b hz0 (by omega)).mono ?_; rintro e w2 ⟨rfl, b2⟩
      rw [HL2.out]
      clear p0 p1 p2 p3 p4
      have HV2 := Lib.hid (HV1.out.below b2); have HS2 := Lib.hid (HS1.out.below b2); have HP2 := Lib.hid (HP1.out.below b2); have HK2 := Lib.hid (HK1.out.below b2 (Nat.le_refl _)); have HB2 := Lib.hid (below_then HB1.out b2)
      have BW2 := HBW1.out.below b2 hl1
      have p0 := (show _ = some (Value.int .i64 t.gate) from BW2.cell 0); have p1 := (show _ = some (Value.int .i64 t.epoch) from BW2.cell 1); have p2 := (show _ = some (Value.int .i64 t.num) from BW2.cell 2); have p3 := (show _ = some (Value.slice A2 n2 c2) from BW2.cell 3); have p4 := (show _ = some (Value.int .i64 t.verdict) from BW2.cell 4)
      have HBW2 := Lib.hid BW2
      have hl2 : w.heap.size < w2.heap.size := BW2.lt
      clear b2 BW2
      go_wp2
      refine wp_region_rel (bookT b rb ra t (.slice A n c) (.slice A2 n2 c2)) (fun _ => none) (fun _ _ w' => Below w2.heap.size w2 w') (fun _ w w' => Below w.heap.size w w') (by kernel_rfl) (by kernel_rfl) (Below.refl _ _).drew (fun _ j _ _ _ _ _ _ hR hT => bookT_keep j hR hT) ?_
      refine wpRel_step [] (by kernel_rfl) (fun L kk w9 vals hk hw hun hcl hdl hT => ?_) ?_
      · have HW := Lib.hid hw
        clear hw hun hcl hdl hT
        simp only [fillR, Act.put, List.setIfInBounds_toArray, List.set_cons_succ, List.set_cons_zero]
        go_wp2
        exact ⟨_, rfl, rfl, HW.out, Below.refl _ _, fun _ => rfl⟩
      refine wpRel_step [28] (by kernel_rfl) (fun L kk w9 vals hk hw hun hcl hdl hT => ?_) ?_
      · have t0 := hT 0 28 (by kernel_rfl) (.inl rfl)
        have HW := Lib.hid hw
        clear hw hun hcl hdl hT
        simp only [fillR, Act.put, List.setIfInBounds_toArray, List.set_cons_succ, List.set_cons_zero]
        rw [show vals 28 = Value.slice A n c from t0]
        clear t0
        go_wp2_with fail
        refine (toLineS_any _ b _ (HV2.out.below HW.out) HN.out HSZ.out).mono ?_; rintro e w8 ⟨c8, rfl, rfl, o8, hbb⟩
        have H8 := Lib.hid (o8.book HOK.out HMX.out); have HBB := Lib.hid hbb
        clear o8 hbb
        go_wp2
        exact ⟨_, rfl, rfl, below_then HW.out HBB.out, HBB.out, fun _ => H8.out⟩
      refine wpRel_step [] (by kernel_rfl) (fun L kk w9 vals hk hw hun hcl hdl hT => ?_) ?_
      · have HW := Lib.hid hw
        clear hw hun hcl hdl hT
        simp only [fillR, Act.put, List.setIfInBounds_toArray, List.set_cons_succ, List.set_cons_zero]
        have z0 := (HW.out.cell (p := ⟨w.heap.size, 0, none⟩) hl2).trans p0; have z1 := (HW.out.cell (p := ⟨w.heap.size, 1, none⟩) hl2).trans p1; have z2 := (HW.out.cell (p := ⟨w.heap.size, 2, none⟩) hl2).trans p2; have z3 := (HW.out.cell (p := ⟨w.heap.size, 3, none⟩) hl2).trans p3; have z4 := (HW.out.cell (p := ⟨w.heap.size, 4, none⟩) hl2).trans p4
        go_wp2
        exact ⟨_, rfl, rfl, HW.out, Below.refl _ _, fun _ => rfl⟩
      refine wpRel_step [30] (by kernel_rfl) (fun L kk w9 vals hk hw hun hcl hdl hT => ?_) ?_
      · have t2 := hT 2 30 (by kernel_rfl) (.inl rfl)
        have HW := Lib.hid hw
        clear hw hun hcl hdl hT
        simp only [fillR, Act.put, List.setIfInBounds_toArray, List.set_cons_succ, List.set_cons_zero]
        rw [show vals 30 = Value.agg #[.int .i64 t.gate, .int .i64 t.epoch, .int .i64 t.num, .slice A2 n2 c2, .int .i64 t.verdict] from t2]
        clear t2
        go_wp2_with fail
        refine (toTold_any t.gate t.epoch t.num t.verdict _ t.args _ (HS2.out.below HW.out) HTN.out).mono ?_; rintro e w8 ⟨v8, rfl, o8, hbb⟩
        have H8 := Lib.hid (SlA.of_own o8 (ints_len _) (ints_rows _)); have HBB := Lib.hid hbb
        clear o8 hbb
        go_wp2
        exact ⟨_, rfl, rfl, below_then HW.out HBB.out, HBB.out, fun _ => ⟨_, rfl, H8.out⟩⟩
      refine wpRel_step [29, 31] (by kernel_rfl) (fun L kk w9 vals hk hw hun hcl hdl hT => ?_) ?_
      · have t1 := hT 1 29 (by kernel_rfl) (.inl rfl)
        have t3 := hT 3 31 (by kernel_rfl) (.inl rfl)
        have HW := Lib.hid hw
        clear hw hun hcl hdl hT
        simp only [fillR, Act.put, List.setIfInBounds_toArray, List.set_cons_succ, List.set_cons_zero]
        obtain ⟨a1, e3, hs1⟩ := t3
        rw [e3]
        have HB1 := Lib.hid (show BookIs w9 (vals 29) b from t1); have HS1 := Lib.hid hs1
        obtain ⟨u1, hu1⟩ : ∃ u1, u1 = vals 29 := ⟨_, rfl⟩
        rw [← hu1]
        rw [← hu1] at HB1
        clear t1 hs1 e3 hu1
        go_wp2_with fail
        refine (HSP.out u1 a1 w9 HB1.out HT.out HS1.out).mono ?_; rintro e w8 ⟨hbb, x, rfl, lo, hi, hlo, hhi, hx⟩; replace hx := hx.is HRO.out
        have HX := Lib.hid hx; have HBB := Lib.hid hbb
        clear hx hbb
        go_wp2
        exact ⟨_, rfl, rfl, below_then HW.out HBB.out, HBB.out, fun _ => ⟨_, rfl, HX.out⟩⟩
      refine wpRel_step [32] (by kernel_rfl) (fun L kk w9 vals hk hw hun hcl hdl hT => ?_) ?_
      · have t4 := hT 4 32 (by kernel_rfl) (.inl rfl)
        have HW := Lib.hid hw
        clear hw hun hcl hdl hT
        simp only [fillR, Act.put, List.setIfInBounds_toArray, List.set_cons_succ, List.set_cons_zero]
        obtain ⟨x, e4, hx⟩ := t4
        have HX := Lib.hid hx
        rw [e4]
        clear e4 hx
        go_wp2
        exact ⟨_, rfl, rfl, HW.out, Below.refl _ _, fun _ => ⟨_, rfl, HX.out⟩⟩
      refine wpRel_step [27] (by kernel_rfl) (fun L kk w9 vals hk hw hun hcl hdl hT => ?_) ?_
      · have t5 := hT 5 27 (by kernel_rfl) (.inl rfl)
        have HW := Lib.hid hw
        clear hw hun hcl hdl hT
        simp only [fillR, Act.put, List.setIfInBounds_toArray, List.set_cons_succ, List.set_cons_zero]
        obtain ⟨x, e4, hx⟩ := t5
        have HX := Lib.hid hx
        rw [e4]
        clear e4 hx
        go_wp2
        exact ⟨_, rfl, rfl, HW.out, Below.refl _ _, fun _ => HX.out⟩
      refine wpRel_step [27] (by kernel_rfl) (fun L kk w9 vals hk hw hun hcl hdl hT => ?_) ?_
      · have t5 := hT 5 27 (by kernel_rfl) (.inl rfl)
        have HW := Lib.hid hw
        clear hw hun hcl hdl hT
        simp only [fillR, Act.put, List.setIfInBounds_toArray, List.set_cons_succ, List.set_cons_zero]
        obtain ⟨x, e4, hx⟩ := t5
        have HX := Lib.hid hx
        rw [e4]
        clear e4 hx
        go_wp2
        exact ⟨_, rfl, rfl, HW.out, Below.refl _ _, fun _ => rfl⟩
      refine wpRel_step [33] (by kernel_rfl) (fun L kk w9 vals hk hw hun hcl hdl hT => ?_) ?_
      · have t6 := hT 6 33 (by kernel_rfl) (.inl rfl)
        have HW := Lib.hid hw
        clear hw hun hcl hdl hT
        simp only [fillR, Act.put, List.setIfInBounds_toArray, List.set_cons_succ, List.set_cons_zero]
        have HX := Lib.hid t6
        obtain ⟨u1, hu1⟩ : ∃ u1, u1 = vals 33 := ⟨_, rfl⟩
        rw [← hu1]
        rw [← hu1] at HX
        clear t6 hu1
        go_wp2
        exact ⟨_, rfl, rfl, HW.out, Below.refl _ _, fun _ => HX.out⟩
      refine wpRel_step [34] (by kernel_rfl) (fun L kk w9 vals hk hw hun hcl hdl hT => ?_) ?_
      · have t7 := hT 7 34 (by kernel_rfl) (.inl rfl)
        have HW := Lib.hid hw
        clear hw hun hcl hdl hT
        simp only [fillR, Act.put, List.setIfInBounds_toArray, List.set_cons_succ, List.set_cons_zero]
        rw [show vals 34 = Value.bool ra from t7]
        clear t7
        go_wp2
        exact ⟨_, rfl, rfl, HW.out, Below.refl _ _, fun _ => rfl⟩
      refine wpRel_end [28, 29, 30, 31, 32, 27, 33, 34, 6, 7] (by kernel_rfl) (fun L w9 vals _ hw hT => ?_)
      have t8 := hT 8 6 (by kernel_rfl) rfl
      have t9 := hT 9 7 (by kernel_rfl) rfl
      simp only [fillR, Act.put, List.setIfInBounds_toArray, List.set_cons_succ, List.set_cons_zero]
      rw [show vals 7 = Value.bool ra from t9]
      have B3 := Lib.hid (below_then HB2.out hw); have HV3 := Lib.hid (HV2.out.below hw); have HS3 := Lib.hid (HS2.out.below hw); have HP3 := Lib.hid (HP2.out.below hw); have HK3 := Lib.hid (HK2.out.below hw (Nat.le_refl _))
      have HW6 := Lib.hid (show BookIs w9 (vals 6) rb from t8)
      obtain ⟨u6, hu6⟩ : ∃ u6, u6 = vals 6 := ⟨_, rfl⟩
      rw [← hu6]
      rw [← hu6] at HW6
      have BW3 := HBW2.out.below hw hl2
      have HBW3 := Lib.hid BW3
      have hl3 : w.heap.size < w9.heap.size := BW3.lt
      clear t8 t9 hT hw hu6 BW3 p0 p1 p2 p3 p4
      go_wp2_with fail
      refine (toLineS_own _ b _ HV3.out HN.out HSZ.out).mono ?_; rintro e w10 ⟨u8, rfl, o10, b10⟩
      have HX := Lib.hid o10; have B10 := Lib.hid b10; have B310 := Lib.hid (below_then B3.out b10)
      have HV4 := Lib.hid (HV3.out.below b10); have HS4 := Lib.hid (HS3.out.below b10); have HP4 := Lib.hid (HP3.out.below b10); have HK4 := Lib.hid (HK3.out.below b10 (Nat.le_refl _))
      have BW4 := HBW3.out.below b10 hl3
      have p0 := (show _ = some (Value.int .i64 t.gate) from BW4.cell 0); have p1 := (show _ = some (Value.int .i64 t.epoch) from BW4.cell 1); have p2 := (show _ = some (Value.int .i64 t.num) from BW4.cell 2); have p3 := (show _ = some (Value.slice A2 n2 c2) from BW4.cell 3); have p4 := (show _ = some (Value.int .i64 t.verdict) from BW4.cell 4)
      have HBW4 := Lib.hid BW4
      have hl4 : w.heap.size < w10.heap.size := BW4.lt
      clear o10 b10 BW4
      go_wp2_with fail
      refine (toTold_any t.gate t.epoch t.num t.verdict _ t.args _ HS4.out HTN.out).mono ?_; rintro e w11 ⟨v1, rfl, o11, b11⟩
      obtain ⟨A1, n1, c1, rfl, -⟩ := SlA.of_own o11 (ints_len _) (ints_rows _)
      obtain ⟨W12, hW12⟩ : ∃ W12, W12 = w11.alloc (.cells #[.int .i64 t.gate, .int .i64 t.epoch, .int .i64 t.num, .slice A1 n1 c1, .int .i64 t.verdict] 30) := ⟨_, rfl⟩
      have bW12 : Below w11.heap.size w11 W12 := by rw [hW12]; go_grown
      have BX : Blk W12 w11.heap.size 30 #[.int .i64 t.gate, .int .i64 t.epoch, .int .i64 t.num, .slice A1 n1 c1, .int .i64 t.verdict] := by rw [hW12]; exact Blk.new _ _ _
      have b12 : Below w10.heap.size w10 W12 := below_then b11 bW12
      have HO11 := Lib.hid (own_below o11 bW12); have HX12 := Lib.hid (HX.out.below b12); have HV12 := Lib.hid (HV4.out.below b12); have HS12 := Lib.hid (HS4.out.below b12); have HP12 := Lib.hid (HP4.out.below b12); have HK12 := Lib.hid (HK4.out.below b12 (Nat.le_refl _)); have HW612 := Lib.hid ((HW6.out.below B10.out).below b12); have B312 := Lib.hid (below_then B310.out b12)
      have HB12 := Lib.hid b12; have HV1B := Lib.hid (show ∀ k, (Value.slice A1 n1 c1).ownBlock = some k → k < w11.heap.size from fun k e => (o11.lt k e).2)
      have HZ11 := Lib.hid (show w10.heap.size ≤ w11.heap.size from b11.size); have HZ10 := Lib.hid (show w9.heap.size ≤ w10.heap.size from B10.out.size)
      have HBW12 := Lib.hid (HBW4.out.below b12 hl4)
      have x0 := (show _ = some (Value.int .i64 t.gate) from BX.cell 0); have x1 := (show _ = some (Value.int .i64 t.epoch) from BX.cell 1); have x2 := (show _ = some (Value.int .i64 t.num) from BX.cell 2); have x3 := (show _ = some (Value.slice A1 n1 c1) from BX.cell 3); have x4 := (show _ = some (Value.int .i64 t.verdict) from BX.cell 4)
      have HBX := Lib.hid BX; have HW12 := Lib.hid hW12; have hl12 : w11.heap.size < W12.heap.size := BX.lt
      clear o11 b11 hW12 bW12 BX b12 p0 p1 p2 p3 p4
      go_wp2_with fail
      rw [← HW12.out]
      refine (HIM.out u8 _ W12 HP12.out HK12.out (HX12.out.is HOK.out) HT.out (SlA.of_own HO11.out (ints_len _) (ints_rows _))).mono ?_; rintro e w13 ⟨b13, u10, rfl, hO13⟩
      have HG := Lib.hid hO13; have B13 := Lib.hid b13; have B313 := Lib.hid (below_then B312.out b13)
      have HX13 := Lib.hid (HX12.out.below b13); have HV13 := Lib.hid (HV12.out.below b13); have HS13 := Lib.hid (HS12.out.below b13); have HO13 := Lib.hid (own_below HO11.out b13); have HP13 := Lib.hid (HP12.out.below b13); have HK13 := Lib.hid (HK12.out.below b13 (Nat.le_refl _)); have HW613 := Lib.hid (HW612.out.below b13); have HBX13 := Lib.hid (HBX.out.below b13 hl12); have HBW13 := Lib.hid (HBW12.out.below b13 HBW12.out.lt)
      clear hO13 b13 x0 x1 x2 x3 x4
      go_wp2_with fail
      refine (eqLineS_same _ _ rb _ (HG.out.is HRO.out) HW613.out).mono ?_; rintro e w14 ⟨rfl, b14⟩
      have B14 := Lib.hid b14
      clear b14
      go_wp2_with fail
      refine (toLineS_any _ b _ (HV13.out.below B14.out) HN.out HSZ.out).mono ?_; rintro e w15 ⟨c15, rfl, rfl, o15, b15⟩
      have HY := Lib.hid (o15.book HOK.out HMX.out); have B15 := Lib.hid (below_then B14.out b15)
      clear o15 b15
      go_wp2_with fail
      refine (eqLineS_same _ _ b _ ((HX13.out.is HOK.out).below B15.out) HY.out).mono ?_; rintro e w16 ⟨rfl, b16⟩
      have B16 := Lib.hid (below_then B15.out b16)
      have BX16 := HBX13.out.below B16.out HBX13.out.lt
      have BW16 := HBW13.out.below B16.out HBW13.out.lt
      have x0 := (show _ = some (Value.int .i64 t.gate) from BX16.cell 0); have x1 := (show _ = some (Value.int .i64 t.epoch) from BX16.cell 1); have x2 := (show _ = some (Value.int .i64 t.num) from BX16.cell 2); have x3 := (show _ = some (Value.slice A1 n1 c1) from BX16.cell 3); have x4 := (show _ = some (Value.int .i64 t.verdict) from BX16.cell 4)
      have p0 := (show _ = some (Value.int .i64 t.gate) from BW16.cell 0); have p1 := (show _ = some (Value.int .i64 t.epoch) from BW16.cell 1); have p2 := (show _ = some (Value.int .i64 t.num) from BW16.cell 2); have p3 := (show _ = some (Value.slice A2 n2 c2) from BW16.cell 3); have p4 := (show _ = some (Value.int .i64 t.verdict) from BW16.cell 4)
      have hlx : w11.heap.size < w16.heap.size := BX16.lt
      have hlp : w.heap.size < w16.heap.size := BW16.lt
      have HS16 := Lib.hid (HS13.out.below B16.out); have HO16 := Lib.hid (own_below HO13.out B16.out)
      have HBX16 := Lib.hid BX16; have HBW16 := Lib.hid BW16
      clear b16 BX16 BW16
      go_wp2
      refine wp_region_rel (eqT t (.slice A1 n1 c1) (.slice A2 n2 c2)) (fun _ => none) (fun _ _ w' => Below w16.heap.size w16 w') (fun _ w w' => Below w.heap.size w w') (by kernel_rfl) (by kernel_rfl) (Below.refl _ _).drew (fun _ j _ _ _ _ _ _ hR hT => eqT_keep j hR hT) ?_
      refine wpRel_step [] (by kernel_rfl) (fun L kk w9 vals hk hw hun hcl hdl hT => ?_) ?_
      · have HW := Lib.hid hw
        clear hw hun hcl hdl hT
        simp only [fillR, Act.put, List.setIfInBounds_toArray, List.set_cons_succ, List.set_cons_zero]
        have z0 := (HW.out.cell (p := ⟨w11.heap.size, 0, none⟩) hlx).trans x0; have z1 := (HW.out.cell (p := ⟨w11.heap.size, 1, none⟩) hlx).trans x1; have z2 := (HW.out.cell (p := ⟨w11.heap.size, 2, none⟩) hlx).trans x2; have z3 := (HW.out.cell (p := ⟨w11.heap.size, 3, none⟩) hlx).trans x3; have z4 := (HW.out.cell (p := ⟨w11.heap.size, 4, none⟩) hlx).trans x4
        go_wp2
        exact ⟨_, rfl, rfl, HW.out, Below.refl _ _, fun _ => rfl⟩
      refine wpRel_step [] (by kernel_rfl) (fun L kk w9 vals hk hw hun hcl hdl hT => ?_) ?_
      · have HW := Lib.hid hw
        clear hw hun hcl hdl hT
        simp only [fillR, Act.put, List.setIfInBounds_toArray, List.set_cons_succ, List.set_cons_zero]
        have z0 := (HW.out.cell (p := ⟨w.heap.size, 0, none⟩) hlp).trans p0; have z1 := (HW.out.cell (p := ⟨w.heap.size, 1, none⟩) hlp).trans p1; have z2 := (HW.out.cell (p := ⟨w.heap.size, 2, none⟩) hlp).trans p2; have z3 := (HW.out.cell (p := ⟨w.heap.size, 3, none⟩) hlp).trans p3; have z4 := (HW.out.cell (p := ⟨w.heap.size, 4, none⟩) hlp).trans p4
        go_wp2
        exact ⟨_, rfl, rfl, HW.out, Below.refl _ _, fun _ => rfl⟩
      refine wpRel_step [60] (by kernel_rfl) (fun L kk w9 vals hk hw hun hcl hdl hT => ?_) ?_
      · have t1 := hT 1 60 (by kernel_rfl) (.inl rfl)
        have HW := Lib.hid hw
        clear hw hun hcl hdl hT
        simp only [fillR, Act.put, List.setIfInBounds_toArray, List.set_cons_succ, List.set_cons_zero]
        rw [show vals 60 = Value.agg #[.int .i64 t.gate, .int .i64 t.epoch, .int .i64 t.num, .slice A2 n2 c2, .int .i64 t.verdict] from t1]
        clear t1
        go_wp2_with fail
        refine (toTold_any t.gate t.epoch t.num t.verdict _ t.args _ (HS16.out.below HW.out) HTN.out).mono ?_; rintro e w8 ⟨v8, rfl, o8, hbb⟩
        have H8 := Lib.hid (SlA.of_own o8 (ints_len _) (ints_rows _)); have HBB := Lib.hid hbb
        clear o8 hbb
        go_wp2
        exact ⟨_, rfl, rfl, below_then HW.out HBB.out, HBB.out, fun _ => ⟨_, rfl, H8.out⟩⟩
      refine wpRel_step [59, 61] (by kernel_rfl) (fun L kk w9 vals hk hw hun hcl hdl hT => ?_) ?_
      · have t0 := hT 0 59 (by kernel_rfl) (.inl rfl)
        have t2 := hT 2 61 (by kernel_rfl) (.inl rfl)
        have HW := Lib.hid hw
        clear hw hun hcl hdl hT
        simp only [fillR, Act.put, List.setIfInBounds_toArray, List.set_cons_succ, List.set_cons_zero]
        obtain ⟨a1, e3, hs1⟩ := t2
        rw [show vals 59 = Value.agg #[.int .i64 t.gate, .int .i64 t.epoch, .int .i64 t.num, .slice A1 n1 c1, .int .i64 t.verdict] from t0, e3]
        have HS1 := Lib.hid hs1
        clear t0 hs1 e3
        go_wp2_with fail
        refine (eqTold_same t.gate t.epoch t.num t.verdict _ _ t.args _ (SlA.of_own (own_below HO16.out HW.out) (ints_len _) (ints_rows _)) HS1.out).mono ?_; rintro e w8 ⟨rfl, hbb⟩
        have HBB := Lib.hid hbb
        clear hbb
        go_wp2
        exact ⟨_, rfl, rfl, below_then HW.out HBB.out, HBB.out, fun _ => rfl⟩
      refine wpRel_step [62] (by kernel_rfl) (fun L kk w9 vals hk hw hun hcl hdl hT => ?_) ?_
      · have t3 := hT 3 62 (by kernel_rfl) (.inl rfl)
        have HW := Lib.hid hw
        clear hw hun hcl hdl hT
        simp only [fillR, Act.put, List.setIfInBounds_toArray, List.set_cons_succ, List.set_cons_zero]
        rw [show vals 62 = Value.bool true from t3]
        clear t3
        go_wp2
        exact ⟨_, rfl, rfl, HW.out, Below.refl _ _, fun _ => rfl⟩
      refine wpRel_end [59, 60, 61, 62, 63] (by kernel_rfl) (fun L w17 vals _ hw hT => ?_)
      have t4 := hT 4 63 (by kernel_rfl) rfl
      simp only [fillR, Act.put, List.setIfInBounds_toArray, List.set_cons_succ, List.set_cons_zero]
      rw [show vals 63 = Value.bool false from t4]
      have B17 := Lib.hid (below_then B16.out hw)
      clear t4 hw hT x0 x1 x2 x3 x4 p0 p1 p2 p3 p4
      have B137 := Lib.hid (below_then B313.out B17.out)
      obtain ⟨xs0, xa, xr, xb⟩ := HX13.out.below B17.out
      have HXR := Lib.hid xr
      have hz9 : w9.heap.size ≤ w17.heap.size := by have a := HZ10.out; have b := HZ11.out; have d := B13.out.size; have e := B17.out.size; omega
      have hz10 : w10.heap.size ≤ W12.heap.size := by have b := HZ11.out; omega
      have hz13 : W12.heap.size ≤ w13.heap.size := B13.out.size
      have B917 := Lib.hid (below_then (below_then (below_then B10.out HB12.out) B13.out) B17.out)
      go_wp2_with fail
      refine (markLineS_any w9.heap.size w10.heap.size _ b xs0 1 w17 xa xr xb hz9 HN.out HWT.out (by omega) (by omega)).mono ?_; rintro e w18 ⟨rfl, -, -, f18⟩
      have HG18 := Lib.hid ((HG.out.below B17.out).mk f18 hz10)
      have BX18 := (HBX13.out.below B17.out HBX13.out.lt).mk f18 HZ11.out
      have HO18 := Lib.hid (f18.own _ _ _ _ _ _ (Nat.le_refl _) (own_below HO13.out B17.out))
      have HBX18 := Lib.hid BX18
      have HBW18 := Lib.hid ((HBW13.out.below B17.out HBW13.out.lt).below f18.below hl3)
      have B918 := Lib.hid (B917.out.trans f18.below)
      have B18 := Lib.hid (B137.out.trans (f18.below.mono B3.out.size))
      have x0 := (show _ = some (Value.int .i64 t.gate) from BX18.cell 0); have x1 := (show _ = some (Value.int .i64 t.epoch) from BX18.cell 1); have x2 := (show _ = some (Value.int .i64 t.num) from BX18.cell 2); have x3 := (show _ = some (Value.slice A1 n1 c1) from BX18.cell 3); have x4 := (show _ = some (Value.int .i64 t.verdict) from BX18.cell 4)
      have hz18 : w10.heap.size ≤ w18.heap.size := by have a := HBX18.out.lt; have b := HZ11.out; omega
      have B18s := Lib.hid (show W12.heap.size ≤ w18.heap.size from Nat.le_trans hz13 (Nat.le_trans B17.out.size f18.below.size))
      clear xa xr xb f18 HXR BX18
      have hm0 : (0 : Int) ≤ 1 + (wtB b : Nat) := by omega
      have hm1 : (1 : Int) + (wtB b : Nat) ≤ 1200000000 := by have := HWT.out; omega
      go_wp2_with fail
      refine (markTold_any w10.heap.size t (.slice A1 n1 c1) (1 + (wtB b : Nat)) w18 HO18.out HTN.out hm0 hm1).mono ?_; rintro e w19 ⟨rfl, g19⟩
      have f19 : MkFr w10.heap.size w11.heap.size w18 w19 := MkFr.row HO18.out HV1B.out g19 hz18
      have HG19 := Lib.hid (HG18.out.mk f19 (Nat.le_of_lt hl12))
      have B919 := Lib.hid (B918.out.trans (f19.below.mono HZ10.out))
      have B19 := Lib.hid (B18.out.trans (f19.below.mono (Nat.le_trans B3.out.size HZ10.out)))
      have HBW19 := Lib.hid (HBW18.out.below f19.below hl4)
      have hm2 : ¬ (1 : Int) + (wtB b : Nat) + (t.args.length : Nat) < 0 := by omega
      have g19s := Lib.hid f19.below.size
      clear g19 f19 x0 x1 x2 x3 x4
      go_wp2_with fail
      refine (eqLineS_same _ _ rb _ (HG19.out.is HRO.out) (HW6.out.below B919.out)).mono ?_; rintro e w20 ⟨rfl, b20⟩
      have HG20 := Lib.hid (HG19.out.below b20)
      have B920 := Lib.hid (below_then B919.out b20); have B20 := Lib.hid (below_then B19.out b20); have HBW20 := Lib.hid (HBW19.out.below b20 HBW19.out.lt)
      have hz20 : W12.heap.size ≤ w20.heap.size := by
        have a := B18s.out; have c := b20.size; have d := g19s.out
        omega
      obtain ⟨ys0, ya, yr, yb⟩ := HG20.out
      clear b20
      have hr0 : ¬ (1 : Int) + (wtB rb : Nat) < 0 := by omega
      have hr1 : ((1 : Int) + (wtB rb : Nat) != 1 + (wtB rb : Nat)) = false := by simp
      go_wp2_with fail
      refine (markLineS_any W12.heap.size w13.heap.size _ rb ys0 1 w20 ya yr yb hz20 HRN.out HRW.out (by omega) (by omega)).mono ?_; rintro e w21 ⟨rfl, ya2, yr2, f21⟩
      have HYA := Lib.hid ya2; have HYR := Lib.hid yr2
      have B921 := Lib.hid (B920.out.trans (f21.below.mono (Nat.le_trans HZ10.out hz10)))
      have B21 := Lib.hid (B20.out.trans (f21.below.mono (Nat.le_trans (Nat.le_trans B3.out.size HZ10.out) hz10)))
      have HBW21 := Lib.hid (HBW20.out.below f21.below (Nat.lt_of_lt_of_le hl4 hz10))
      clear ya yr yb ya2 yr2 f21
      go_wp2_with fail
      refine (heldLineS_any W12.heap.size w13.heap.size _ rb ys0 1 w21 HYA.out HYR.out HRN.out HRW.out (by omega) (by omega)).mono ?_; rintro e w22 ⟨rfl, b22⟩
      have BW22 := HBW21.out.below b22 HBW21.out.lt
      have p0 := (show _ = some (Value.int .i64 t.gate) from BW22.cell 0); have p1 := (show _ = some (Value.int .i64 t.epoch) from BW22.cell 1); have p2 := (show _ = some (Value.int .i64 t.num) from BW22.cell 2); have p3 := (show _ = some (Value.slice A2 n2 c2) from BW22.cell 3); have p4 := (show _ = some (Value.int .i64 t.verdict) from BW22.cell 4)
      have hl22 : w.heap.size < w22.heap.size := BW22.lt
      have B922 := Lib.hid (below_then B921.out b22); have B22 := Lib.hid (below_then B21.out b22); have B2122 := Lib.hid b22
      have HV22 := Lib.hid (HVW.out.below B22.out); have HS22 := Lib.hid (HSW.out.below B22.out); have HP22 := Lib.hid (HPW.out.below B22.out); have HK22 := Lib.hid (HKW.out.below B22.out (Nat.le_refl _))
      clear b22 BW22
      go_wp2
      refine wp_region_rel (bookT b rb ra t (.slice A n c) (.slice A2 n2 c2)) (fun _ => none) (fun _ _ w' => Below w22.heap.size w22 w') (fun _ w w' => Below w.heap.size w w') (by kernel_rfl) (by kernel_rfl) (Below.refl _ _).drew (fun _ j _ _ _ _ _ _ hR hT => bookT_keep j hR hT) ?_
      refine wpRel_step [] (by kernel_rfl) (fun L kk w23 vals hk hw hun hcl hdl hT => ?_) ?_
      · have HW := Lib.hid hw
        clear hw hun hcl hdl hT
        simp only [fillR, Act.put, List.setIfInBounds_toArray, List.set_cons_succ, List.set_cons_zero]
        go_wp2
        exact ⟨_, rfl, rfl, HW.out, Below.refl _ _, fun _ => rfl⟩
      refine wpRel_step [95] (by kernel_rfl) (fun L kk w23 vals hk hw hun hcl hdl hT => ?_) ?_
      · have t0 := hT 0 95 (by kernel_rfl) (.inl rfl)
        have HW := Lib.hid hw
        clear hw hun hcl hdl hT
        simp only [fillR, Act.put, List.setIfInBounds_toArray, List.set_cons_succ, List.set_cons_zero]
        rw [show vals 95 = Value.slice A n c from t0]
        clear t0
        go_wp2_with fail
        refine (toLineS_any _ b _ (HV22.out.below HW.out) HN.out HSZ.out).mono ?_; rintro e w8 ⟨c8, rfl, rfl, o8, hbb⟩
        have H8 := Lib.hid (o8.book HOK.out HMX.out); have HBB := Lib.hid hbb
        clear o8 hbb
        go_wp2
        exact ⟨_, rfl, rfl, below_then HW.out HBB.out, HBB.out, fun _ => H8.out⟩
      refine wpRel_step [] (by kernel_rfl) (fun L kk w23 vals hk hw hun hcl hdl hT => ?_) ?_
      · have HW := Lib.hid hw
        clear hw hun hcl hdl hT
        simp only [fillR, Act.put, List.setIfInBounds_toArray, List.set_cons_succ, List.set_cons_zero]
        have z0 := (HW.out.cell (p := ⟨w.heap.size, 0, none⟩) hl22).trans p0; have z1 := (HW.out.cell (p := ⟨w.heap.size, 1, none⟩) hl22).trans p1; have z2 := (HW.out.cell (p := ⟨w.heap.size, 2, none⟩) hl22).trans p2; have z3 := (HW.out.cell (p := ⟨w.heap.size, 3, none⟩) hl22).trans p3; have z4 := (HW.out.cell (p := ⟨w.heap.size, 4, none⟩) hl22).trans p4
        go_wp2
        exact ⟨_, rfl, rfl, HW.out, Below.refl _ _, fun _ => rfl⟩
      refine wpRel_step [97] (by kernel_rfl) (fun L kk w23 vals hk hw hun hcl hdl hT => ?_) ?_
      · have t2 := hT 2 97 (by kernel_rfl) (.inl rfl)
        have HW := Lib.hid hw
        clear hw hun hcl hdl hT
        simp only [fillR, Act.put, List.setIfInBounds_toArray, List.set_cons_succ, List.set_cons_zero]
        rw [show vals 97 = Value.agg #[.int .i64 t.gate, .int .i64 t.epoch, .int .i64 t.num, .slice A2 n2 c2, .int .i64 t.verdict] from t2]
        clear t2
        go_wp2_with fail
        refine (toTold_any t.gate t.epoch t.num t.verdict _ t.args _ (HS22.out.below HW.out) HTN.out).mono ?_; rintro e w8 ⟨v8, rfl, o8, hbb⟩
        have H8 := Lib.hid (SlA.of_own o8 (ints_len _) (ints_rows _)); have HBB := Lib.hid hbb
        clear o8 hbb
        go_wp2
        exact ⟨_, rfl, rfl, below_then HW.out HBB.out, HBB.out, fun _ => ⟨_, rfl, H8.out⟩⟩
      refine wpRel_step [96, 98] (by kernel_rfl) (fun L kk w23 vals hk hw hun hcl hdl hT => ?_) ?_
      · have t1 := hT 1 96 (by kernel_rfl) (.inl rfl)
        have t3 := hT 3 98 (by kernel_rfl) (.inl rfl)
        have HW := Lib.hid hw
        clear hw hun hcl hdl hT
        simp only [fillR, Act.put, List.setIfInBounds_toArray, List.set_cons_succ, List.set_cons_zero]
        obtain ⟨a1, e3, hs1⟩ := t3
        rw [e3]
        have HB1 := Lib.hid (show BookIs w23 (vals 96) b from t1); have HS1 := Lib.hid hs1
        obtain ⟨u1, hu1⟩ : ∃ u1, u1 = vals 96 := ⟨_, rfl⟩
        rw [← hu1]
        rw [← hu1] at HB1
        clear t1 hs1 e3 hu1
        go_wp2_with fail
        refine (HIM.out u1 a1 w23 (HP22.out.below HW.out) (HK22.out.below HW.out (Nat.le_refl _)) HB1.out HT.out HS1.out).mono ?_; rintro e w8 ⟨hbb, x, rfl, hx⟩; replace hx := hx.is HRO.out
        have HX := Lib.hid hx; have HBB := Lib.hid hbb
        clear hx hbb
        go_wp2
        exact ⟨_, rfl, rfl, below_then HW.out HBB.out, HBB.out, fun _ => ⟨_, rfl, HX.out⟩⟩
      refine wpRel_step [99] (by kernel_rfl) (fun L kk w23 vals hk hw hun hcl hdl hT => ?_) ?_
      · have t4 := hT 4 99 (by kernel_rfl) (.inl rfl)
        have HW := Lib.hid hw
        clear hw hun hcl hdl hT
        simp only [fillR, Act.put, List.setIfInBounds_toArray, List.set_cons_succ, List.set_cons_zero]
        obtain ⟨x, e4, hx⟩ := t4
        have HX := Lib.hid hx
        rw [e4]
        clear e4 hx
        go_wp2
        exact ⟨_, rfl, rfl, HW.out, Below.refl _ _, fun _ => ⟨_, rfl, HX.out⟩⟩
      refine wpRel_step [94] (by kernel_rfl) (fun L kk w23 vals hk hw hun hcl hdl hT => ?_) ?_
      · have t5 := hT 5 94 (by kernel_rfl) (.inl rfl)
        have HW := Lib.hid hw
        clear hw hun hcl hdl hT
        simp only [fillR, Act.put, List.setIfInBounds_toArray, List.set_cons_succ, List.set_cons_zero]
        obtain ⟨x, e4, hx⟩ := t5
        have HX := Lib.hid hx
        rw [e4]
        clear e4 hx
        go_wp2
        exact ⟨_, rfl, rfl, HW.out, Below.refl _ _, fun _ => HX.out⟩
      refine wpRel_step [94] (by kernel_rfl) (fun L kk w23 vals hk hw hun hcl hdl hT => ?_) ?_
      · have t5 := hT 5 94 (by kernel_rfl) (.inl rfl)
        have HW := Lib.hid hw
        clear hw hun hcl hdl hT
        simp only [fillR, Act.put, List.setIfInBounds_toArray, List.set_cons_succ, List.set_cons_zero]
        obtain ⟨x, e4, hx⟩ := t5
        have HX := Lib.hid hx
        rw [e4]
        clear e4 hx
        go_wp2
        exact ⟨_, rfl, rfl, HW.out, Below.refl _ _, fun _ => rfl⟩
      refine wpRel_step [100] (by kernel_rfl) (fun L kk w23 vals hk hw hun hcl hdl hT => ?_) ?_
      · have t6 := hT 6 100 (by kernel_rfl) (.inl rfl)
        have HW := Lib.hid hw
        clear hw hun hcl hdl hT
        simp only [fillR, Act.put, List.setIfInBounds_toArray, List.set_cons_succ, List.set_cons_zero]
        have HX := Lib.hid t6
        obtain ⟨u1, hu1⟩ : ∃ u1, u1 = vals 100 := ⟨_, rfl⟩
        rw [← hu1]
        rw [← hu1] at HX
        clear t6 hu1
        go_wp2
        exact ⟨_, rfl, rfl, HW.out, Below.refl _ _, fun _ => HX.out⟩
      refine wpRel_step [101] (by kernel_rfl) (fun L kk w23 vals hk hw hun hcl hdl hT => ?_) ?_
      · have t7 := hT 7 101 (by kernel_rfl) (.inl rfl)
        have HW := Lib.hid hw
        clear hw hun hcl hdl hT
        simp only [fillR, Act.put, List.setIfInBounds_toArray, List.set_cons_succ, List.set_cons_zero]
        rw [show vals 101 = Value.bool ra from t7]
        clear t7
        go_wp2
        exact ⟨_, rfl, rfl, HW.out, Below.refl _ _, fun _ => rfl⟩
      refine wpRel_end [95, 96, 97, 98, 99, 94, 100, 101, 15, 16] (by kernel_rfl) (fun L w23 vals _ hw hT => ?_)
      have t8 := hT 8 15 (by kernel_rfl) rfl
      have t9 := hT 9 16 (by kernel_rfl) rfl
      simp only [fillR, Act.put, List.setIfInBounds_toArray, List.set_cons_succ, List.set_cons_zero]
      rw [show vals 16 = Value.bool ra from t9]
      have HW15 := Lib.hid (show BookIs w23 (vals 15) rb from t8)
      have B2223 := Lib.hid hw
      obtain ⟨u15, hu15⟩ : ∃ u15, u15 = vals 15 := ⟨_, rfl⟩
      rw [← hu15]
      rw [← hu15] at HW15
      clear t8 t9 hT hw hu15 p0 p1 p2 p3 p4
      go_wp2_with fail
      refine (eqLineS_same _ _ rb _ HW15.out (HW6.out.below (below_then B922.out B2223.out))).mono ?_; rintro e w24 ⟨rfl, b24⟩
      have B2124 := Lib.hid (below_then (below_then B2122.out B2223.out) b24); have B24 := Lib.hid (below_then (below_then B22.out B2223.out) b24)
      clear b24
      go_wp2_with fail
      refine (heldLineS_any W12.heap.size w13.heap.size _ rb ys0 1 w24 (HYA.out.next B2124.out) (own_below HYR.out B2124.out) HRN.out HRW.out (by omega) (by omega)).mono ?_; rintro e w25 ⟨rfl, b25⟩
      have B25 := Lib.hid (below_then B24.out b25)
      clear b25
      go_wp2
      go_ret
      exact ⟨rfl, B25.out⟩
    · have HL2 := Lib.hid (show leftOf z n2 = -1 by unfold leftOf; rw [if_neg hle2])
      go_enter Tryd.func7, Tryd.ntmps7
      go_wp2_with fail
      rw [← HW0.out]
      refine (szLineS_any _ b 1048576 _ HV0.out (by omega) (by omega) HZ.out).mono ?_; rintro e w1 ⟨rfl, b1⟩
      rw [HL.out]
      have HB1 := Lib.hid (below_then HB0.out b1)
      have BW1 := HBW.out.below b1 hl0
      have p0 := (show _ = some (Value.int .i64 t.gate) from BW1.cell 0); have p1 := (show _ = some (Value.int .i64 t.epoch) from BW1.cell 1); have p2 := (show _ = some (Value.int .i64 t.num) from BW1.cell 2); have p3 := (show _ = some (Value.slice A2 n2 c2) from BW1.cell 3); have p4 := (show _ = some (Value.int .i64 t.verdict) from BW1.cell 4)
      clear b1 BW1
      go_wp2_with fail
      refine (szTold_any t.gate t.epoch t.num t.verdict A2 n2 c2 z _ hn2b hz0 (by omega)).mono ?_; rintro e w2 ⟨rfl, b2⟩
      rw [HL2.out]
      have HB2 := Lib.hid (below_then HB1.out b2)
      clear b2
      go_wp2
      go_ret
      exact ⟨rfl, HB2.out⟩
  · have HL := Lib.hid (show leftOf 1048576 (b.length + lnsSize b) = -1 by unfold leftOf; rw [if_neg hle])
    go_enter Tryd.func7, Tryd.ntmps7
    go_wp2_with fail
    rw [← HW0.out]
    refine (szLineS_any _ b 1048576 _ HV0.out (by omega) (by omega) HZ.out).mono ?_; rintro e w1 ⟨rfl, b1⟩
    rw [HL.out]
    have HB1 := Lib.hid (below_then HB0.out b1)
    clear b1
    go_wp2
    go_ret
    exact ⟨rfl, HB1.out⟩

theorem laid_met (os : Os) : laidMet Tryd.prog Rows.fnExactBookAddRow.laid ((laidWorld os Rows.fnExactBookAddRow.laid).forCall (fun _ _ => 0) ⟨#[], #[.slice none 0 0, .agg #[.int .i64 0, .int .i64 0, .int .i64 0, .slice none 0 0, .int .i64 0]], []⟩).memory :=
  laidMet_of_run' 8 (by kernel_rfl) (by kernel_rfl)
theorem reads (os : Os) {H : Type} (enc : TypeId × Value → H) : (DataW.whole enc Tryd.prog ((laidWorld os Rows.fnExactBookAddRow.laid).forCall (fun _ _ => 0) ⟨#[], #[.slice none 0 0, .agg #[.int .i64 0, .int .i64 0, .int .i64 0, .slice none 0 0, .int .i64 0]], []⟩).memory Tryd.f7.params.toList Rows.fnExactBookAddSpec.vars false #[.slice none 0 0, .agg #[.int .i64 0, .int .i64 0, .int .i64 0, .slice none 0 0, .int .i64 0]].toList 8).isSome = true := by kernel_rfl

set_option maxRecDepth 100000 in
theorem lifted (os : Os) (started : os.Started) (H : Type) (enc : TypeId × Value → H) (F : Stop.Interp) :
    ReturnsInHanded {} Tryd.checked os 7 .any ((OpenSpec.ofChange Rows.fnExactBookAddSpec).preRow enc Tryd.prog Tryd.f7 Rows.fnExactBookAddRow.domain false Rows.fnExactBookAddRow.laid) (((OpenSpec.ofChange Rows.fnExactBookAddSpec).at F).post enc Tryd.prog Tryd.f7 false true false false) := by
  obtain ⟨x, hx⟩ := Option.isSome_iff_exists.1 (reads os enc)
  refine returnsInHanded_of_row (C := Tryd.checked) (s := OpenSpec.ofChange Rows.fnExactBookAddSpec) own started (by kernel_rfl) Tryd.func7
    (witness_row_at (enc := enc) (C := Tryd.checked) false (laidWorld os Rows.fnExactBookAddRow.laid) #[.slice none 0 0, .agg #[.int .i64 0, .int .i64 0, .int .i64 0, .slice none 0 0, .int .i64 0]] rfl (by kernel_rfl) (by kernel_rfl) (by kernel_rfl)
      (OpenSpec.preRow_of_cond 8 hx rfl (fun k hk => by cases hk) (by kernel_rfl) (laid_met os))) ?_
  intro W base args ds gs before hval hW _ _ _ hL _ _
  have hW' := hW
  obtain ⟨p, q, hA0, hV, rfl, hfz, hnd⟩ := hW
  have hA : DataW.TrodAll enc Tryd.prog W 0 (fun _ => true) true Tryd.f7.params.toList args.toList ds p := hA0
  rw [Tryd.params7] at hA
  obtain ⟨v0, vs0, d0, ds0, p0, q0, hargs, rfl, rfl, h0, r0⟩ := trodAll_cons hA
  obtain ⟨v1, vs1, d1, ds1, p1, q1, rfl, rfl, rfl, h1, r1⟩ := trodAll_cons r0
  obtain ⟨rfl, rfl, rfl⟩ := trodAll_nil r1
  obtain rfl : args = #[v0, v1] := by cases args; simp_all
  obtain ⟨gg, tg, cg, fg, dg, pg, rfl, -, -, -, -, -⟩ := trodVars_one (show DataW.TrodVars enc Tryd.prog W (fun _ => true) ["loop.example/gatelodge/impl.hashWords"] gs q from hV)
  obtain ⟨fuel0, hf0⟩ := h0
  obtain ⟨a0, len0, cap0, rfl⟩ := okWide_slice Tryd.underlying37 (hval 0 37 v0 rfl rfl)
  obtain ⟨u0, b, hc0, hs0, hz0⟩ := book_arg hf0
  obtain rfl : Value.slice a0 len0 cap0 = u0 := by simpa [Value.cells] using hc0
  obtain ⟨fuel1, hf1⟩ := h1
  obtain ⟨cs1, rfl, _⟩ := okWide_struct Tryd.underlying51 (hval 1 51 v1 rfl rfl)
  obtain ⟨t, av, hc1, hs1, ht1⟩ := told_arg hf1
  obtain rfl : cs1 = #[.int .i64 t.gate, .int .i64 t.epoch, .int .i64 t.num, av, .int .i64 t.verdict] := by simpa [Value.cells] using congrArg List.toArray hc1
  exact (walk _ b t av W (pow_of_laid hL (by kernel_rfl) (by kernel_rfl)) (kww_of_laid hL (by kernel_rfl) (by kernel_rfl)) hs0 hz0 ht1 hs1).mono fun e W' ⟨he, hb⟩ => ⟨_, he, law_postV laidOut (by kernel_rfl) (by kernel_rfl) rfl Tryd.underlying4 rfl hW' hb⟩

theorem said : Rows.FnExactBookAddSaid :=
  OpenClaim.holds_of_cond 7 Tryd.f7 rfl rfl rfl rfl rfl rfl rfl ⟨rfl, rfl, rfl, rfl, rfl⟩ rfl rfl rfl rfl rfl (by kernel_rfl) Tryd.func7 (by kernel_rfl)
    (of_decide_eq_true (by kernel_rfl)) (by unfold Func.isWrapper; first | (rw [if_pos (by decide +kernel)]; kernel_rfl) | (rw [if_neg (by decide +kernel)]; exact ⟨rfl, rfl⟩))
    (fun os started H enc _ F => by rw [OpenClaim.pre_eq_preRow]; exact lifted os started H enc F)

theorem plain (f : FuncId) (fn : Func) (hf : Tryd.pinned.checked.prog.funcNamed "loop.example/gatelodge/laws.FnExactBookAdd" = some f) (hfn : Tryd.pinned.checked.prog.funcs[f]? = some fn) :
    false = Tryd.pinned.checked.prog.looks [] ∧ ∀ (j : Nat) t, fn.params[j]? = some t → Tryd.pinned.checked.prog.wantsStandIn t = false := by
  obtain rfl : f = 7 := Option.some.inj ((show Tryd.prog.funcNamed "loop.example/gatelodge/laws.FnExactBookAdd" = some 7 by kernel_rfl).symm.trans hf) |>.symm
  obtain rfl : fn = Tryd.f7 := (Option.some.inj (Tryd.func7.symm.trans hfn)).symm
  refine ⟨by kernel_rfl, fun j t ht => ?_⟩
  rw [Tryd.params7] at ht
  obtain rfl | rfl : t = 37 ∨ t = 51 := by simpa using Array.mem_of_getElem? ht
  · exact (show Tryd.prog.wantsStandIn 37 = false by kernel_rfl)
  · exact (show Tryd.prog.wantsStandIn 51 = false by kernel_rfl)


theorem card : Rows.FnExactBookAddCardSaid :=
  Claim7.holds_tied_plain_at .later [] _ _ _ _ said (fun _ h => by cases h) (by kernel_rfl) (fun _ h => by cases h) fnExactBookAdd_row_tie rfl ⟨rfl, rfl⟩ (by kernel_rfl) rfl plain (by kernel_rfl)
end exactBookAdd
end Go.Proofs.YtaieopdfkapgdaaDoor
