/- What spec's policy says of a call: l2Field, l2Holds, l2Fits, PolicyOf. -/
import Derived.Test.YtkiacbfpnidjlaaGreatDoorPofI
import Derived.Test.YtkiacbfpnidjlaaGreatDoorPolSA
namespace Go.Proofs.YtkiacbfpnidjlaaGreatDoor
open Go.RowKit
set_option linter.unusedSimpArgs false
set_option linter.unusedVariables false

theorem l2FieldN_any (c : Cl) (A : Option Addr) (cc : Nat) (k : Int) (w : World) (hA : SlA w 1 A 4 cc (ints c.args)) (hk : 0 ≤ k ∧ k ≤ 4) :
    Calls Tryz.prog 55 #[.agg #[.int .i64 c.num, .slice A 4 cc], .int .i64 k] w fun e w' => e = .returned (.int .i64 (fieldZ c k)) ∧ Below w.heap.size w w' := by
  have hm := hA.max
  unfold maxLen at hm
  by_cases h0 : k = 0
  · subst h0
    rw [fieldZ_zero]
    go_enter Tryz.func55, Tryz.ntmps55
    go_wp2
    go_ret
    exact ⟨rfl, by go_grown⟩
  · obtain ⟨j, rfl⟩ : ∃ j : Nat, k = j + 1 := ⟨(k - 1).toNat, by omega⟩
    have hj4 : j < 4 := by omega
    have hji : (j : Int) < 4 := by omega
    have hf : fieldZ c ((j : Int) + 1) = (c.args[j]?).getD 0 := by unfold fieldZ; rw [if_neg h0, show (((j : Int) + 1 - 1).toNat) = j by omega]
    rw [hf]
    obtain ⟨b, off, x, rfl, hb, hx, hcell⟩ := ints_get hA hj4
    rw [hx, Option.getD_some]
    have c0 := hcell _ _ ((Below.refl w.heap.size w).alloc (Nat.le_refl _) (.cells #[.int .i64 c.num, .slice (some ⟨b, off, none⟩) 4 cc] 28)) hb
    have h0' : ((j : Int) + 1 == 0) = false := by simp; omega
    clear hcell hx hf
    go_enter Tryz.func55, Tryz.ntmps55
    go_wp2
    go_ret
    exact ⟨rfl, by go_grown⟩
set_option maxHeartbeats 2000000 in
theorem l2Holds_any (t : Ts) (c : Cl) (v : Value) (w : World) (hc : ClIs w c v) (hf : 0 ≤ t.field ∧ t.field ≤ 4) (ho : t.op = 1 ∨ t.op = 2 ∨ t.op = 3) :
    Calls Tryz.prog 44 #[.agg #[.int .i64 t.field, .int .i64 t.mask, .int .i64 t.op, .int .i64 t.value], v] w fun e w' => e = .returned (.bool (holdsB t c)) ∧ Below w.heap.size w w' := by
  obtain ⟨A, cc, rfl, hA⟩ := hc
  obtain ⟨W, hW⟩ : ∃ W, W = (w.alloc (.cells #[.int .i64 t.field, .int .i64 t.mask, .int .i64 t.op, .int .i64 t.value] 64)).alloc (.cells #[.int .i64 c.num, .slice A 4 cc] 28) := ⟨_, rfl⟩
  have hb : Below w.heap.size w W := by rw [hW]; go_grown
  have KT : Blk W w.heap.size 64 #[.int .i64 t.field, .int .i64 t.mask, .int .i64 t.op, .int .i64 t.value] := by rw [hW]; exact (Blk.new w _ _).alloc _
  have KC : Blk W (w.heap.size + 1) 28 #[.int .i64 c.num, .slice A 4 cc] := by
    rw [hW]
    have h := Blk.new (w.alloc (.cells #[.int .i64 t.field, .int .i64 t.mask, .int .i64 t.op, .int .i64 t.value] 64)) 28 #[.int .i64 c.num, .slice A 4 cc]
    rwa [World.size_alloc] at h
  have HA := Lib.hid (hA.below hb); have HW := Lib.hid hW; have HB := Lib.hid hb
  clear hA hW hb
  go_enter Tryz.func44, Tryz.ntmps44
  go_wp2_with fail
  rw [← HW.out]
  have r0 := cell_regrown (show _ = some (Value.int .i64 t.field) from KT.cell 0); have r1 := cell_regrown (show _ = some (Value.int .i64 t.mask) from KT.cell 1); have r2 := cell_regrown (show _ = some (Value.int .i64 t.op) from KT.cell 2); have r3 := cell_regrown (show _ = some (Value.int .i64 t.value) from KT.cell 3)
  have s0 := cell_regrown (show _ = some (Value.int .i64 c.num) from KC.cell 0); have s1 := cell_regrown (show _ = some (Value.slice A 4 cc) from KC.cell 1)
  refine wp_region_quiet_below (by kernel_rfl) (by kernel_rfl) ?_
  repeat (quiet_step (exact Calls.regrown_of (l2FieldN_any c A cc t.field _ (HA.out.below (below_regrown _ _ _)) hf)))
  refine wpQuiet_nil ?_
  intro _ hw'
  obtain ⟨⟨dq, osq⟩, hw''⟩ := hw'
  subst hw''
  obtain ⟨z, hz⟩ : ∃ z, z = Go.bits BinOp.and IntKind.i64 (fieldZ c t.field) t.mask := ⟨_, rfl⟩
  have HZ : Hid (holdsB t c = lookB t.op z t.value) := Lib.hid (by rw [hz]; rfl)
  rw [← hz]
  clear hz r0 r1 s0 s1
  have HBB := Lib.hid (below_then HB.out (below_regrown _ dq osq))
  rcases ho with ho | ho | ho
  all_goals
    rw [ho] at r2 HZ
    go_wp2
    all_goals
      go_ret
      exact ⟨by rw [HZ.out]; first | rfl | (simp [lookB]; done) | (simp [lookB]; omega), HBB.out⟩

set_option maxHeartbeats 4000000 in
theorem l2Fits_any (r : Rl) (c : Cl) (tv v : Value) (w : World) (hc : ClIs w c v) (hT : Sl w 4 tv (tsR r.tests)) (hr : RuleFine r) :
    Calls Tryz.prog 32 #[.agg #[.int .i64 r.verdict, .int .i64 r.low, .int .i64 r.high, tv], v] w fun e w' => e = .returned (.bool (rfitsB r c)) ∧ Below w.heap.size w w' := by
  obtain ⟨A, cc, rfl, hA⟩ := hc
  obtain ⟨TA, m, tc, rfl, hTS⟩ := hT
  have htl : r.tests.length = m := by have := hTS.len; rwa [tsR_len] at this
  have hm4 : m ≤ 4 := by rw [← htl]; exact hr.1
  have htc := hTS.cap
  have htm := hTS.max
  unfold maxLen at htm
  obtain ⟨W, hW⟩ : ∃ W, W = (w.alloc (.cells #[.int .i64 r.verdict, .int .i64 r.low, .int .i64 r.high, .slice TA m tc] 61)).alloc (.cells #[.int .i64 c.num, .slice A 4 cc] 28) := ⟨_, rfl⟩
  have hb : Below w.heap.size w W := by rw [hW]; go_grown
  have KR : Blk W w.heap.size 61 #[.int .i64 r.verdict, .int .i64 r.low, .int .i64 r.high, .slice TA m tc] := by rw [hW]; exact (Blk.new w _ _).alloc _
  have KC : Blk W (w.heap.size + 1) 28 #[.int .i64 c.num, .slice A 4 cc] := by
    rw [hW]
    have h := Blk.new (w.alloc (.cells #[.int .i64 r.verdict, .int .i64 r.low, .int .i64 r.high, .slice TA m tc] 61)) 28 #[.int .i64 c.num, .slice A 4 cc]
    rwa [World.size_alloc] at h
  have HA := Lib.hid hA; have HW := Lib.hid hW; have HB := Lib.hid hb; have HTS := Lib.hid hTS; have HTL := Lib.hid htl; have HR := Lib.hid hr; have HKR := Lib.hid KR; have HKC := Lib.hid KC
  have x0 := (show _ = some (Value.int .i64 r.low) from KR.cell 1); have x1 := (show _ = some (Value.int .i64 r.high) from KR.cell 2); have x2 := (show _ = some (Value.slice TA m tc) from KR.cell 3); have y0 := (show _ = some (Value.int .i64 c.num) from KC.cell 0)
  clear hA hW hb hTS htl hr KR KC
  go_enter Tryz.func32, Tryz.ntmps32
  go_upto_region 1 with (fail)
  rw [← HW.out]
  clear x0 x1 x2 y0
  go_wp2
  go_loopw [5] (fun i wr => ∃ j : Nat, j ≤ m ∧ i = .int .i64 j ∧ Hid ((r.tests.take j).all (fun t => holdsB t c) = true) ∧ Hid (Below W.heap.size W wr)) (fun i _ => m - (intOf i).toNat)
  case atStart => exact ⟨0, Nat.zero_le _, rfl, Lib.hid (by simp), Lib.hid (Below.refl _ _)⟩
  case round =>
    obtain ⟨j, hj, rfl, HALL, HBW⟩ := hrel
    have hbw : Below w.heap.size w wr := below_then HB.out HBW.out
    have KC2 := HKC.out.below HBW.out HKC.out.lt
    have KR2 := HKR.out.below HBW.out HKR.out.lt
    have x2 := (show _ = some (Value.slice TA m tc) from KR2.cell 3)
    by_cases hjm : j < m
    · have hji : (j : Int) < m := by omega
      obtain ⟨b2, off2, t, rfl, hab2, ht, hcell2⟩ := ts_get HTS.out hjm
      obtain ⟨q0, q1, q2, q3⟩ := hcell2 wr w.heap.size hbw hab2
      obtain ⟨hf, ho⟩ := HR.out.2 t (List.mem_of_getElem? ht)
      have HT2 := Lib.hid (testsAll_take (c := c) ht)
      have y0 := (show _ = some (Value.int .i64 c.num) from KC2.cell 0); have y1 := (show _ = some (Value.slice A 4 cc) from KC2.cell 1)
      have HBW2 := Lib.hid hbw
      have HALLT := Lib.hid (show t ∈ r.tests from List.mem_of_getElem? ht)
      clear hcell2 ht KC2 KR2 hbw
      go_wp2_with fail
      have r0 := cell_regrown q0; have r1 := cell_regrown q1; have r2 := cell_regrown q2; have r3 := cell_regrown q3
      have s0 := cell_regrown y0; have s1 := cell_regrown y1; have s2 := cell_regrown x2
      clear q0 q1 q2 q3 y0 y1 x2
      refine wp_region_quiet_below (by kernel_rfl) (by kernel_rfl) ?_
      repeat (quiet_step (exact Calls.regrown_of (l2Holds_any t c _ _ ⟨A, cc, rfl, (HA.out.below HBW2.out).below (below_regrown _ _ _)⟩ hf ho)))
      refine wpQuiet_nil ?_
      intro _ hw'
      obtain ⟨⟨dq, osq⟩, hw''⟩ := hw'
      subst hw''
      have HB3 := Lib.hid (below_regrown wr dq osq)
      clear r0 r1 r2 r3 s0 s1 s2
      cases hh : holdsB t c with
      | true =>
        have HH := Lib.hid hh; clear hh
        go_wp2
        exact ⟨⟨j + 1, by omega, by go_num, Lib.hid (by rw [HT2.out, HALL.out, HH.out]; rfl), Lib.hid (HBW.out.trans (HB3.out.mono HBW.out.size))⟩, by simp [intOf]; try omega⟩
      | false =>
        have HF := Lib.hid (show rfitsB r c = false by
          unfold rfitsB
          rw [Bool.and_eq_false_iff]
          right
          rw [List.all_eq_false]
          exact ⟨t, HALLT.out, by rw [hh]; simp⟩)
        clear hh
        go_wp2
        go_ret
        exact ⟨by rw [HF.out]; rfl, below_then HBW2.out HB3.out⟩
    · obtain rfl : j = m := by omega
      have HF := Lib.hid (show rfitsB r c = inB c.num r.low r.high by
        unfold rfitsB
        have := HALL.out
        rw [List.take_of_length_le (by rw [HTL.out]; exact Nat.le_refl _)] at this
        rw [show (r.tests.all fun t => holdsB t c) = true from this, Bool.and_true])
      have y0 := (show _ = some (Value.int .i64 c.num) from KC2.cell 0)
      have x0 := (show _ = some (Value.int .i64 r.low) from KR2.cell 1); have x1 := (show _ = some (Value.int .i64 r.high) from KR2.cell 2)
      have HBW2 := Lib.hid hbw
      clear hbw KC2 KR2
      go_wp2_with fail
      refine (l1In_any _ _ _ _).mono ?_; rintro e w3 ⟨rfl, rfl⟩
      go_wp2
      go_ret
      exact ⟨by rw [HF.out]; rfl, HBW2.out⟩

theorem callOk_near {c : Cl} (h1 : 0 ≤ c.num ∧ c.num ≤ 4294967295) (h2 : c.args.length = 4) (h3 : ∀ x ∈ c.args, 0 ≤ x ∧ x ≤ 4294967295) : callOkB c.num c.args = true := by
  simp only [callOkB, decide_eq_true_eq]
  exact ⟨h1, h2, h3⟩
end Go.Proofs.YtkiacbfpnidjlaaGreatDoor
