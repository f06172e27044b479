/- What impl's policy says of a call: callField, testFits, ruleFits, policyOf. -/
import Derived.Test.YtkiacbfpnidjlaaGreatDoorPofP
import Derived.Test.YtkiacbfpnidjlaaGreatDoorTxt
import Derived.Lib.QuietBelow
import Derived.Deep.CutBlock
namespace Go.Proofs.YtkiacbfpnidjlaaGreatDoor
open Go.RowKit
set_option linter.unusedSimpArgs false
set_option linter.unusedVariables false

theorem fieldZ_zero (c : Cl) : fieldZ c 0 = c.num := by simp [fieldZ]
theorem callFieldN_any (c : Cl) (A : Option Addr) (cc : Nat) (k : Int) (w : World) (hA : SlA w 1 A 4 cc (ints c.args)) (hk : 0 ≤ k ∧ k ≤ 4) :
    Calls Tryz.prog 67 #[.agg #[.int .i64 c.num, .slice A 4 cc], .int .i64 k] w fun e w' => e = .returned (.int .i64 (fieldZ c k)) ∧ Below w.heap.size w w' := by
  have hm := hA.max
  unfold maxLen at hm
  by_cases h0 : k = 0
  · subst h0
    rw [fieldZ_zero]
    go_enter Tryz.func67, Tryz.ntmps67
    go_wp2
    go_ret
    exact ⟨rfl, by go_grown⟩
  · obtain ⟨j, rfl⟩ : ∃ j : Nat, k = j + 1 := ⟨(k - 1).toNat, by omega⟩
    have hj4 : j < 4 := by omega
    have hji : (j : Int) < 4 := by omega
    have hf : fieldZ c ((j : Int) + 1) = (c.args[j]?).getD 0 := by unfold fieldZ; rw [if_neg h0, show (((j : Int) + 1 - 1).toNat) = j by omega]
    rw [hf]
    obtain ⟨b, off, x, rfl, hb, hx, hcell⟩ := ints_get hA hj4
    rw [hx, Option.getD_some]
    have c0 := hcell _ _ ((Below.refl w.heap.size w).alloc (Nat.le_refl _) (.cells #[.int .i64 c.num, .slice (some ⟨b, off, none⟩) 4 cc] 28)) hb
    have h0' : ((j : Int) + 1 == 0) = false := by simp; omega
    clear hcell hx hf
    go_enter Tryz.func67, Tryz.ntmps67
    go_wp2
    go_ret
    exact ⟨rfl, by go_grown⟩
theorem holdsN_any (op a b : Int) (w : World) (ho : op = 1 ∨ op = 2 ∨ op = 3) :
    Calls Tryz.prog 66 #[.int .i64 op, .int .i64 a, .int .i64 b] w fun e w' => e = .returned (.bool (lookB op a b)) ∧ Below w.heap.size w w' := by
  rcases ho with rfl | rfl | rfl
  all_goals
    go_enter Tryz.func66, Tryz.ntmps66
    go_wp2
    all_goals
      go_ret
      exact ⟨ret_bool (by first | rfl | (simp [lookB]; try omega)), by go_grown⟩

set_option maxHeartbeats 2000000 in
theorem testFits_any (t : Ts) (c : Cl) (v : Value) (w : World) (hc : ClIs w c v) (hf : 0 ≤ t.field ∧ t.field ≤ 4) (ho : t.op = 1 ∨ t.op = 2 ∨ t.op = 3) :
    Calls Tryz.prog 52 #[.agg #[.int .i64 t.field, .int .i64 t.mask, .int .i64 t.op, .int .i64 t.value], v] w fun e w' => e = .returned (.bool (holdsB t c)) ∧ Below w.heap.size w w' := by
  obtain ⟨A, cc, rfl, hA⟩ := hc
  obtain ⟨W, hW⟩ : ∃ W, W = (w.alloc (.cells #[.int .i64 t.field, .int .i64 t.mask, .int .i64 t.op, .int .i64 t.value] 64)).alloc (.cells #[.int .i64 c.num, .slice A 4 cc] 28) := ⟨_, rfl⟩
  have hb : Below w.heap.size w W := by rw [hW]; go_grown
  have KT : Blk W w.heap.size 64 #[.int .i64 t.field, .int .i64 t.mask, .int .i64 t.op, .int .i64 t.value] := by rw [hW]; exact (Blk.new w _ _).alloc _
  have KC : Blk W (w.heap.size + 1) 28 #[.int .i64 c.num, .slice A 4 cc] := by
    rw [hW]
    have h := Blk.new (w.alloc (.cells #[.int .i64 t.field, .int .i64 t.mask, .int .i64 t.op, .int .i64 t.value] 64)) 28 #[.int .i64 c.num, .slice A 4 cc]
    rwa [World.size_alloc] at h
  have HA := Lib.hid (hA.below hb); have HW := Lib.hid hW; have HB := Lib.hid hb
  clear hA hW hb
  go_enter Tryz.func52, Tryz.ntmps52
  go_wp2_with fail
  rw [← HW.out]
  have r0 := cell_regrown (show _ = some (Value.int .i64 t.field) from KT.cell 0); have r1 := cell_regrown (show _ = some (Value.int .i64 t.mask) from KT.cell 1); have r2 := cell_regrown (show _ = some (Value.int .i64 t.op) from KT.cell 2); have r3 := cell_regrown (show _ = some (Value.int .i64 t.value) from KT.cell 3)
  have s0 := cell_regrown (show _ = some (Value.int .i64 c.num) from KC.cell 0); have s1 := cell_regrown (show _ = some (Value.slice A 4 cc) from KC.cell 1)
  refine wp_region_quiet_below (by kernel_rfl) (by kernel_rfl) ?_
  repeat (quiet_step (first | exact Calls.regrown_of (callFieldN_any c A cc t.field _ (HA.out.below (below_regrown _ _ _)) hf) | exact Calls.regrown_of (holdsN_any _ _ _ _ ho)))
  refine wpQuiet_nil ?_
  intro _ hw'
  obtain ⟨⟨dq, osq⟩, hw''⟩ := hw'
  subst hw''
  go_wp2
  go_ret
  exact ⟨rfl, below_then HB.out (below_regrown _ _ _)⟩

/-- A rule that is fine for a look. -/
def RuleFine (r : Rl) : Prop := r.tests.length ≤ 4 ∧ ∀ t ∈ r.tests, (0 ≤ t.field ∧ t.field ≤ 4) ∧ (t.op = 1 ∨ t.op = 2 ∨ t.op = 3)

set_option maxHeartbeats 4000000 in
theorem ruleFits_any (r : Rl) (c : Cl) (tv v : Value) (w : World) (hc : ClIs w c v) (hT : Sl w 4 tv (tsR r.tests)) (hr : RuleFine r) :
    Calls Tryz.prog 37 #[.agg #[.int .i64 r.verdict, .int .i64 r.low, .int .i64 r.high, tv], v] w fun e w' => e = .returned (.bool (rfitsB r c)) ∧ Below w.heap.size w w' := by
  obtain ⟨A, cc, rfl, hA⟩ := hc
  obtain ⟨TA, m, tc, rfl, hTS⟩ := hT
  have htl : r.tests.length = m := by have := hTS.len; rwa [tsR_len] at this
  have hm4 : m ≤ 4 := by rw [← htl]; exact hr.1
  have htc := hTS.cap
  have htm := hTS.max
  unfold maxLen at htm
  obtain ⟨W, hW⟩ : ∃ W, W = (w.alloc (.cells #[.int .i64 r.verdict, .int .i64 r.low, .int .i64 r.high, .slice TA m tc] 61)).alloc (.cells #[.int .i64 c.num, .slice A 4 cc] 28) := ⟨_, rfl⟩
  have hb : Below w.heap.size w W := by rw [hW]; go_grown
  have KR : Blk W w.heap.size 61 #[.int .i64 r.verdict, .int .i64 r.low, .int .i64 r.high, .slice TA m tc] := by rw [hW]; exact (Blk.new w _ _).alloc _
  have KC : Blk W (w.heap.size + 1) 28 #[.int .i64 c.num, .slice A 4 cc] := by
    rw [hW]
    have h := Blk.new (w.alloc (.cells #[.int .i64 r.verdict, .int .i64 r.low, .int .i64 r.high, .slice TA m tc] 61)) 28 #[.int .i64 c.num, .slice A 4 cc]
    rwa [World.size_alloc] at h
  have HA := Lib.hid hA; have HW := Lib.hid hW; have HB := Lib.hid hb; have HTS := Lib.hid hTS; have HTL := Lib.hid htl; have HR := Lib.hid hr; have HKR := Lib.hid KR; have HKC := Lib.hid KC
  have x0 := (show _ = some (Value.int .i64 r.low) from KR.cell 1); have x1 := (show _ = some (Value.int .i64 r.high) from KR.cell 2); have x2 := (show _ = some (Value.slice TA m tc) from KR.cell 3); have y0 := (show _ = some (Value.int .i64 c.num) from KC.cell 0)
  clear hA hW hb hTS htl hr KR KC
  go_enter Tryz.func37, Tryz.ntmps37
  go_upto_region 1 with (fail)
  rw [← HW.out]
  by_cases h1 : c.num < r.low
  · have HF := Lib.hid (show rfitsB r c = false by simp [rfitsB, inB]; omega)
    clear x1 x2
    go_wp2
    go_ret
    exact ⟨by rw [HF.out]; rfl, HB.out⟩
  · have h1' : decide (c.num < r.low) = false := by simpa using h1
    by_cases h2 : r.high < c.num
    · have HF := Lib.hid (show rfitsB r c = false by simp [rfitsB, inB]; omega)
      clear x2
      go_wp2
      go_ret
      exact ⟨by rw [HF.out]; rfl, HB.out⟩
    · have h2' : decide (r.high < c.num) = false := by simpa using h2
      have HIN := Lib.hid (show inB c.num r.low r.high = true by simp [inB]; omega)
      clear h1 h2
      go_wp2
      clear h1' h2' x0 x1 x2 y0
      go_loopw [22] (fun i wr => ∃ j : Nat, j ≤ m ∧ i = .int .i64 j ∧ Hid ((r.tests.take j).all (fun t => holdsB t c) = true) ∧ Hid (Below W.heap.size W wr)) (fun i _ => m - (intOf i).toNat)
      case atStart => exact ⟨0, Nat.zero_le _, rfl, Lib.hid (by simp), Lib.hid (Below.refl _ _)⟩
      case round =>
        obtain ⟨j, hj, rfl, HALL, HBW⟩ := hrel
        have hbw : Below w.heap.size w wr := below_then HB.out HBW.out
        have KC2 := HKC.out.below HBW.out HKC.out.lt
        by_cases hjm : j < m
        · have hji : (j : Int) < m := by omega
          obtain ⟨b2, off2, t, rfl, hab2, ht, hcell2⟩ := ts_get HTS.out hjm
          obtain ⟨q0, q1, q2, q3⟩ := hcell2 wr w.heap.size hbw hab2
          obtain ⟨hf, ho⟩ := HR.out.2 t (List.mem_of_getElem? ht)
          have HT2 := Lib.hid (testsAll_take (c := c) ht)
          have y0 := (show _ = some (Value.int .i64 c.num) from KC2.cell 0); have y1 := (show _ = some (Value.slice A 4 cc) from KC2.cell 1)
          have hlc : w.heap.size + 1 < wr.heap.size := KC2.lt
          have HBW2 := Lib.hid hbw
          have HALLT := Lib.hid (show t ∈ r.tests from List.mem_of_getElem? ht)
          clear hcell2 ht KC2 hbw
          go_wp2_with fail
          refine (testFits_any t c _ _ ⟨A, cc, rfl, (HA.out.below HBW2.out).below (by go_grown)⟩ hf ho).mono ?_; rintro e w3 ⟨rfl, hb3⟩
          have HB3 := Lib.hid (below_then (show Below wr.heap.size wr _ by go_grown) hb3)
          clear hb3 q0 q1 q2 q3 y0 y1
          cases hh : holdsB t c with
          | true =>
            have HH := Lib.hid hh; clear hh
            go_wp2
            exact ⟨⟨j + 1, by omega, by go_num, Lib.hid (by rw [HT2.out, HALL.out, HH.out]; rfl), Lib.hid (HBW.out.trans (HB3.out.mono HBW.out.size))⟩, by simp [intOf]; try omega⟩
          | false =>
            have HF := Lib.hid (show rfitsB r c = false by
              unfold rfitsB
              rw [Bool.and_eq_false_iff]
              right
              rw [List.all_eq_false]
              exact ⟨t, HALLT.out, by rw [hh]; simp⟩)
            clear hh
            go_wp2
            go_ret
            exact ⟨by rw [HF.out]; rfl, below_then HBW2.out HB3.out⟩
        · obtain rfl : j = m := by omega
          have HF := Lib.hid (show rfitsB r c = true by
            unfold rfitsB
            rw [HIN.out]
            have := HALL.out
            rw [List.take_of_length_le (by rw [HTL.out]; exact Nat.le_refl _)] at this
            simpa using this)
          have HBW2 := Lib.hid hbw
          clear hbw KC2
          go_wp2
          go_ret
          exact ⟨by rw [HF.out]; rfl, HBW2.out⟩

/-- A policy that is fine for a look. -/
def PolFine (p : Pol) : Prop := p.rules.length ≤ 8 ∧ ∀ r ∈ p.rules, RuleFine r

set_option maxHeartbeats 4000000 in
theorem policyOf_any (p : Pol) (c : Cl) (pv v : Value) (w : World) (hP : PolIs w p pv) (hc : ClIs w c v) (hp : PolFine p) :
    Calls Tryz.prog 20 #[pv, v] w fun e w' => e = .returned (.int .i64 (polOf p c)) ∧ Below w.heap.size w w' := by
  obtain ⟨rv, css, rfl, ⟨A, n, cp, rfl, hSA⟩, hR⟩ := hP
  obtain ⟨CA, cc, rfl, hA⟩ := hc
  have hpl : p.rules.length = n := by rw [← hR.1, hSA.len]
  have hcp := hSA.cap
  have hm := hSA.max
  unfold maxLen at hm
  have hn8 : n ≤ 8 := by rw [← hpl]; exact hp.1
  obtain ⟨W, hW⟩ : ∃ W, W = (w.alloc (.cells #[.slice A n cp, .int .i64 p.els] 33)).alloc (.cells #[.int .i64 c.num, .slice CA 4 cc] 28) := ⟨_, rfl⟩
  have hb : Below w.heap.size w W := by rw [hW]; go_grown
  have KP : Blk W w.heap.size 33 #[.slice A n cp, .int .i64 p.els] := by rw [hW]; exact (Blk.new w _ _).alloc _
  have KC : Blk W (w.heap.size + 1) 28 #[.int .i64 c.num, .slice CA 4 cc] := by
    rw [hW]
    have h := Blk.new (w.alloc (.cells #[.slice A n cp, .int .i64 p.els] 33)) 28 #[.int .i64 c.num, .slice CA 4 cc]
    rwa [World.size_alloc] at h
  have HA := Lib.hid hA; have HW := Lib.hid hW; have HB := Lib.hid hb; have HSA := Lib.hid hSA; have HR := Lib.hid hR; have HPL := Lib.hid hpl; have HP := Lib.hid hp; have HKP := Lib.hid KP; have HKC := Lib.hid KC
  have x0 := (show _ = some (Value.slice A n cp) from KP.cell 0)
  clear hA hW hb hSA hR hpl hp KP KC
  go_enter Tryz.func20, Tryz.ntmps20
  go_upto_region 1 with (fail)
  rw [← HW.out]
  go_wp2
  clear x0
  go_loopw [10] (fun i wr => ∃ k : Nat, k ≤ n ∧ i = .int .i64 k ∧ Hid (∀ (j : Nat) (r : Rl), j < k → p.rules[j]? = some r → rfitsB r c = false) ∧ Hid (Below W.heap.size W wr)) (fun i _ => n - (intOf i).toNat)
  case atStart => exact ⟨0, Nat.zero_le _, rfl, Lib.hid (fun j r hj => absurd hj (by omega)), Lib.hid (Below.refl _ _)⟩
  case round =>
    obtain ⟨k, hk, rfl, HNO, HBW⟩ := hrel
    have hbw : Below w.heap.size w wr := below_then HB.out HBW.out
    have KC2 := HKC.out.below HBW.out HKC.out.lt
    have KP2 := HKP.out.below HBW.out HKP.out.lt
    by_cases hlt : k < n
    · have hki : (k : Int) < n := by omega
      obtain ⟨b, off, x, tv, rfl, hab, hx, hst, hcell⟩ := rules_get HSA.out HR.out hlt
      obtain ⟨TA, m, tc, rfl, hTS⟩ := hst
      obtain ⟨q0, q1, q2, q3⟩ := hcell wr w.heap.size hbw hab
      have y0 := (show _ = some (Value.int .i64 c.num) from KC2.cell 0); have y1 := (show _ = some (Value.slice CA 4 cc) from KC2.cell 1)
      have hlc : w.heap.size + 1 < wr.heap.size := KC2.lt
      have HX := Lib.hid hx; have HTS := Lib.hid hTS; have HBW2 := Lib.hid hbw; have HLT := Lib.hid hlt
      obtain ⟨W3, hW3⟩ : ∃ W3, W3 = wr.alloc (.cells #[.int .i64 x.verdict, .int .i64 x.low, .int .i64 x.high, .slice TA m tc] 61) := ⟨_, rfl⟩
      have hb3 : Below wr.heap.size wr W3 := by rw [hW3]; go_grown
      have K3 : Hid (Blk W3 wr.heap.size 61 #[.int .i64 x.verdict, .int .i64 x.low, .int .i64 x.high, .slice TA m tc]) := by rw [hW3]; exact Lib.hid (Blk.new _ _ _)
      replace y0 := (hb3.cell (p := ⟨w.heap.size + 1, 0, none⟩) hlc).trans y0
      replace y1 := (hb3.cell (p := ⟨w.heap.size + 1, 1, none⟩) hlc).trans y1
      have HW3 := Lib.hid hW3; have HB3 := Lib.hid hb3
      clear hcell hx hTS KC2 KP2 hbw hW3 hb3 hlt
      go_upto_region 4 with (fail)
      rw [← HW3.out]
      clear q0 q1 q2 q3
      have e0 := (show _ = some (Value.int .i64 x.verdict) from K3.out.cell 0); have e1 := (show _ = some (Value.int .i64 x.low) from K3.out.cell 1); have e2 := (show _ = some (Value.int .i64 x.high) from K3.out.cell 2); have e3 := (show _ = some (Value.slice TA m tc) from K3.out.cell 3)
      go_wp2_with fail
      refine (ruleFits_any x c (.slice TA m tc) _ _ ⟨CA, cc, rfl, (HA.out.below HBW2.out).below HB3.out⟩ ⟨_, _, _, rfl, (HTS.out.below HBW2.out).below HB3.out⟩ (HP.out.2 x (List.mem_of_getElem? HX.out))).mono ?_; rintro e w4 ⟨rfl, hb4⟩
      have K4 := K3.out.below hb4 K3.out.lt
      have z0 := (show _ = some (Value.int .i64 x.verdict) from K4.cell 0)
      have HB4 := Lib.hid (below_then HB3.out hb4)
      clear e0 e1 e2 e3 y0 y1 hb4 K4
      cases hh : rfitsB x c with
      | true =>
        have HV := Lib.hid (show polOf p c = x.verdict from pofB_at HNO.out HX.out hh)
        clear hh
        go_wp2
        go_ret
        exact ⟨by rw [HV.out]; rfl, below_then HBW2.out HB4.out⟩
      | false =>
        have HH := Lib.hid hh; clear hh z0
        go_wp2
        exact ⟨⟨k + 1, HLT.out, by go_num, Lib.hid (fun j r hj hr => by
          by_cases e : j = k
          · subst e; rw [HX.out] at hr; cases hr; exact HH.out
          · exact HNO.out j r (by omega) hr), Lib.hid (HBW.out.trans (HB4.out.mono HBW.out.size))⟩, by simp [intOf]; have := HLT.out; omega⟩
    · obtain rfl : k = n := by omega
      have HV := Lib.hid (show polOf p c = p.els from pofB_none (fun j r hr => HNO.out j r (by rw [← HPL.out]; exact (List.getElem?_eq_some_iff.1 hr).1) hr))
      have z0 := (show _ = some (Value.int .i64 p.els) from KP2.cell 1)
      have HBW2 := Lib.hid hbw
      clear hbw KC2 KP2
      go_wp2
      go_ret
      exact ⟨by rw [HV.out]; rfl, HBW2.out⟩
end Go.Proofs.YtkiacbfpnidjlaaGreatDoor
