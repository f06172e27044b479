/- spec.PolicyOf: what spec says a policy says of a call. -/
import Derived.Test.YtkiacbfpnidjlaaGreatDoorPofS
namespace Go.Proofs.YtkiacbfpnidjlaaGreatDoor
open Go.RowKit
set_option linter.unusedSimpArgs false
set_option linter.unusedVariables false

set_option maxHeartbeats 4000000 in
theorem PolicyOf_any (p : Pol) (c : Cl) (pv v : Value) (w : World) (hP : PolIs w p pv) (hc : ClIs w c v) (hok : polOkB p = true) (hco : callOkB c.num c.args = true) (hp : PolFine p) :
    Calls Tryz.prog 16 #[pv, v] w fun e w' => e = .returned (.int .i64 (polOf p c)) ∧ Below w.heap.size w w' := by
  have HPI := Lib.hid hP
  obtain ⟨rv, css, rfl, ⟨A, n, cp, rfl, hSA⟩, hR⟩ := hP
  obtain ⟨CA, cc, rfl, hA⟩ := hc
  have hpl : p.rules.length = n := by rw [← hR.1, hSA.len]
  have hcp := hSA.cap
  have hm := hSA.max
  unfold maxLen at hm
  have hn8 : n ≤ 8 := by rw [← hpl]; exact hp.1
  obtain ⟨W, hW⟩ : ∃ W, W = (w.alloc (.cells #[.slice A n cp, .int .i64 p.els] 33)).alloc (.cells #[.int .i64 c.num, .slice CA 4 cc] 28) := ⟨_, rfl⟩
  have hb : Below w.heap.size w W := by rw [hW]; go_grown
  have KP : Blk W w.heap.size 33 #[.slice A n cp, .int .i64 p.els] := by rw [hW]; exact (Blk.new w _ _).alloc _
  have KC : Blk W (w.heap.size + 1) 28 #[.int .i64 c.num, .slice CA 4 cc] := by
    rw [hW]
    have h := Blk.new (w.alloc (.cells #[.slice A n cp, .int .i64 p.els] 33)) 28 #[.int .i64 c.num, .slice CA 4 cc]
    rwa [World.size_alloc] at h
  have HA := Lib.hid hA; have HW := Lib.hid hW; have HB := Lib.hid hb; have HSA := Lib.hid hSA; have HR := Lib.hid hR; have HPL := Lib.hid hpl; have HP := Lib.hid hp; have HKP := Lib.hid KP; have HKC := Lib.hid KC; have HOK := Lib.hid hok; have HCO := Lib.hid hco
  have x0 := (show _ = some (Value.slice A n cp) from KP.cell 0); have x1 := (show _ = some (Value.int .i64 p.els) from KP.cell 1)
  clear hA hW hb hSA hR hpl hp KP KC hok hco
  go_enter Tryz.func16, Tryz.ntmps16
  go_upto_region 1 with (fail)
  rw [← HW.out]
  go_wp2_with fail
  refine (PolicyOk_any p _ _ (HPI.out.below HB.out)).mono ?_; rintro e w2 ⟨rfl, hb2⟩
  rw [HOK.out]
  have KC2 := HKC.out.below hb2 HKC.out.lt
  have y0 := (show _ = some (Value.int .i64 c.num) from KC2.cell 0); have y1 := (show _ = some (Value.slice CA 4 cc) from KC2.cell 1)
  have HB2 := Lib.hid hb2
  clear x0 x1 KC2 hb2
  go_wp2_with fail
  refine (sCallOk_any c.num _ c.args _ ⟨_, _, _, rfl, (HA.out.below HB.out).below HB2.out⟩).mono ?_; rintro e w3 ⟨rfl, hb3⟩
  rw [HCO.out]
  have HBW3 := Lib.hid (HB2.out.trans (hb3.mono HB2.out.size))
  clear y0 y1 hb3 HB2
  go_wp2_with fail
  go_loopw [5] (fun i wr => ∃ k : Nat, k ≤ n ∧ i = .int .i64 k ∧ Hid (∀ (j : Nat) (r : Rl), j < k → p.rules[j]? = some r → rfitsB r c = false) ∧ Hid (Below W.heap.size W wr)) (fun i _ => n - (intOf i).toNat)
  case atStart => exact ⟨0, Nat.zero_le _, rfl, Lib.hid (fun j r hj => absurd hj (by omega)), HBW3⟩
  case round =>
    obtain ⟨k, hk, rfl, HNO, HBW⟩ := hrel
    have hbw : Below w.heap.size w wr := below_then HB.out HBW.out
    have KC2 := HKC.out.below HBW.out HKC.out.lt
    have KP2 := HKP.out.below HBW.out HKP.out.lt
    have x0 := (show _ = some (Value.slice A n cp) from KP2.cell 0)
    by_cases hlt : k < n
    · have hki : (k : Int) < n := by omega
      obtain ⟨b, off, x, tv, rfl, hab, hx, hst, hcell⟩ := rules_get HSA.out HR.out hlt
      obtain ⟨q0, q1, q2, q3⟩ := hcell wr w.heap.size hbw hab
      have y0 := (show _ = some (Value.int .i64 c.num) from KC2.cell 0); have y1 := (show _ = some (Value.slice CA 4 cc) from KC2.cell 1)
      have HX := Lib.hid hx; have HTS := Lib.hid hst; have HBW2 := Lib.hid hbw; have HLT := Lib.hid hlt
      clear hcell hx hst KC2 KP2 hbw hlt
      go_upto_region 6 with (fail)
      have r0 := cell_regrown q0; have r1 := cell_regrown q1; have r2 := cell_regrown q2; have r3 := cell_regrown q3
      have s0 := cell_regrown y0; have s1 := cell_regrown y1; have s2 := cell_regrown x0
      refine wp_region_quiet_below (by kernel_rfl) (by kernel_rfl) ?_
      repeat (quiet_step (exact Calls.regrown_of (l2Fits_any x c tv _ _ ⟨CA, cc, rfl, (HA.out.below HBW2.out).below (below_regrown _ _ _)⟩ ((HTS.out.below HBW2.out).below (below_regrown _ _ _)) (HP.out.2 x (List.mem_of_getElem? HX.out)))))
      refine wpQuiet_nil ?_
      intro _ hw'
      obtain ⟨⟨dq, osq⟩, hw''⟩ := hw'
      subst hw''
      have z0 := r0 dq osq; have z2 := s2 dq osq
      have HB4 := Lib.hid (below_regrown wr dq osq)
      clear r0 r1 r2 r3 s0 s1 s2 q0 q1 q2 q3 y0 y1 x0
      cases hh : rfitsB x c with
      | true =>
        have HV := Lib.hid (show polOf p c = x.verdict from pofB_at HNO.out HX.out hh)
        clear hh
        go_wp2
        go_ret
        exact ⟨by rw [HV.out]; rfl, below_then HBW2.out HB4.out⟩
      | false =>
        have HH := Lib.hid hh; clear hh z0 z2
        go_wp2
        exact ⟨⟨k + 1, HLT.out, by go_num, Lib.hid (fun j r hj hr => by
          by_cases e : j = k
          · subst e; rw [HX.out] at hr; cases hr; exact HH.out
          · exact HNO.out j r (by omega) hr), Lib.hid (HBW.out.trans (HB4.out.mono HBW.out.size))⟩, by simp [intOf]; have := HLT.out; omega⟩
    · obtain rfl : k = n := by omega
      have HV := Lib.hid (show polOf p c = p.els from pofB_none (fun j r hr => HNO.out j r (by rw [← HPL.out]; exact (List.getElem?_eq_some_iff.1 hr).1) hr))
      have z0 := (show _ = some (Value.int .i64 p.els) from KP2.cell 1)
      have HBW2 := Lib.hid hbw
      clear hbw KC2 KP2
      go_wp2
      go_ret
      exact ⟨by rw [HV.out]; rfl, HBW2.out⟩
end Go.Proofs.YtkiacbfpnidjlaaGreatDoor
