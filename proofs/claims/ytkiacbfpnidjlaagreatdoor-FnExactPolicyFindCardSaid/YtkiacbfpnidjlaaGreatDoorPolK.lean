/- Joined texts: PolI2 PolI3 PutY. -/
import Derived.Test.YtkiacbfpnidjlaaGreatDoorPolJ
import Derived.Test.YtkiacbfpnidjlaaGreatDoorLinesI
import Derived.Deep.CutBlock
import Derived.Test.YtkiacbfpnidjlaaGreatDoorPutA
-- impl's policies: writeRule.
namespace Go.Proofs.YtkiacbfpnidjlaaGreatDoor
open Go.RowKit
set_option linter.unusedSimpArgs false
set_option linter.unusedVariables false

theorem ba_list2 (a b : List UInt8) : (⟨a.toArray⟩ ++ ⟨b.toArray⟩ : ByteArray).data.toList = a ++ b := by rw [ba_append]
/-- How the world stands while a rule is written. -/
structure WrS (w wr : World) (cs : Array Value) (l : List UInt8) : Prop where
  bat : BAt (w.heap.size + 1) (w.heap.size + 1) l wr
  rule : Blk wr w.heap.size 61 cs
  below : Below w.heap.size w wr
theorem WrS.room {w wr : World} {cs : Array Value} {l : List UInt8} (h : WrS w wr cs l) : w.heap.size + 1 < wr.heap.size := h.bat.lt
theorem WrS.next {w wr w1 : World} {cs : Array Value} {l : List UInt8} (h : WrS w wr cs l) (hb : Below wr.heap.size wr w1) : WrS w w1 cs l :=
  ⟨h.bat.below hb, h.rule.below hb h.rule.lt, below_then h.below hb⟩
theorem WrS.write {w wr w1 : World} {cs : Array Value} {l m : List UInt8} (h : WrS w wr cs l) (hb : BAt (w.heap.size + 1) (w.heap.size + 1) m w1) (hw : Below (w.heap.size + 1) wr w1) : WrS w w1 cs m :=
  ⟨hb, h.rule.below hw (by omega), h.below.trans (hw.mono (by omega))⟩
theorem WrS.cells {w wr : World} {vd lo hi : Int} {tv : Value} {l : List UInt8} (h : WrS w wr #[.int .i64 vd, .int .i64 lo, .int .i64 hi, tv] l) :
    wr.cell? ⟨w.heap.size, 0, none⟩ = some (.int .i64 vd) ∧ wr.cell? ⟨w.heap.size, 1, none⟩ = some (.int .i64 lo) ∧ wr.cell? ⟨w.heap.size, 2, none⟩ = some (.int .i64 hi) ∧ wr.cell? ⟨w.heap.size, 3, none⟩ = some tv :=
  ⟨h.rule.cell 0, h.rule.cell 1, h.rule.cell 2, h.rule.cell 3⟩
theorem WrS.start (w : World) (cs : Array Value) : WrS w ((w.alloc (.cells cs 61)).alloc (.cells #[.pointer none, .slice none 0 0] 94)) cs [] := by
  refine ⟨?_, (Blk.new w _ _).alloc _, by go_grown⟩
  have := Lib.fresh_isBuilder 94 5 (w.alloc (.cells cs 61))
  simpa [BAt, Lib.byteCells] using this

set_option maxRecDepth 100000 in
set_option maxHeartbeats 16000000 in
theorem writeRule_any (r : Rl) (tv : Value) (w : World) (hs : Sl w 4 tv (tsR r.tests)) (hp : Pow w) (hok : ruleOkB r = true) :
    Calls Tryz.prog 60 #[.agg #[.int .i64 r.verdict, .int .i64 r.low, .int .i64 r.high, tv]] w fun e w' => e = .returned (.string ⟨(ruleText r).toArray⟩) ∧ Below w.heap.size w w' := by
  obtain ⟨vd, lo, hi, ts⟩ := r
  obtain ⟨⟨hv1, hv2⟩, ⟨hl1, hl2⟩, hh, h4, hts⟩ := ruleOkB_words hok
  simp only at hs hv1 hv2 hl1 hl2 hh h4 hts ⊢
  obtain ⟨A, m, c, rfl, hA⟩ := hs
  have hc := hA.cap
  have hm := hA.max
  unfold maxLen at hm
  have htl : ts.length = m := by have := hA.len; rwa [tsR_len] at this
  rw [htl] at h4
  have HTL := Lib.hid htl; have HTS := Lib.hid hts; have HPW := Lib.hid (fun (wr : World) (l : List UInt8) (h : WrS w wr #[.int .i64 vd, .int .i64 lo, .int .i64 hi, .slice A m c] l) => hp.below h.below); clear htl hts hok
  have a1 := verdNm_len vd
  have a2 := itoa10 (n := lo) (by omega)
  have a3 := itoa10 (n := hi) (by omega)
  have d1 : ¬ 9223372036854775807 < (verdNm vd).length + 1 := by omega
  have d2 : ¬ 9223372036854775807 < (verdNm vd).length + 1 + (Lib.itoa lo).length := by omega
  have d3 : ¬ 9223372036854775807 < 1 + (Lib.itoa hi).length := by omega
  have S0 := WrS.start w #[.int .i64 vd, .int .i64 lo, .int .i64 hi, .slice A m c]
  obtain ⟨W0, hW0⟩ : ∃ W, W = (w.alloc (.cells #[.int .i64 vd, .int .i64 lo, .int .i64 hi, .slice A m c] 61)).alloc (.cells #[.pointer none, .slice none 0 0] 94) := ⟨_, rfl⟩
  rw [← hW0] at S0
  have HW0 := Lib.hid hW0; have HS0 := Lib.hid S0; clear hW0 S0
  go_enter Tryz.func60, Tryz.ntmps60
  go_wp2
  rw [← HW0.out]
  have Sd : WrS w W0.drew #[.int .i64 vd, .int .i64 lo, .int .i64 hi, .slice A m c] [] := HS0.out.next (by go_grown)
  have pd : Pow W0.drew := HPW.out _ _ Sd
  obtain ⟨c0, c1, c2, c3⟩ := Sd.cells
  have HSd := Lib.hid Sd; have Hpd := Lib.hid pd; clear Sd pd
  apply region_mid (R := fun hh w' => WrS w w' #[.int .i64 vd, .int .i64 lo, .int .i64 hi, .slice A m c] (verdNm vd ++ [32] ++ Lib.itoa lo))
  case hr =>
    go_region_law (first
      | (go_simp; go_at_call 61; refine (verdictName_any _ _).mono ?_; rintro e w0 ⟨rfl, rfl⟩)
      | (go_simp; go_at_call 71; refine (itoa_any _ _ Hpd.out (by omega) (by omega)).mono ?_; rintro e wi ⟨rfl, hbi⟩; have Si := HSd.out.next hbi; replace c0 := Si.cells.1; replace c1 := Si.cells.2.1)
      | (go_simp; go_at_call 59; refine (bat_write _ _ _ _ (verdNm vd ++ [32] ++ Lib.itoa lo) (ba_list3 _ _ _) _ Si.bat (by simp; omega) (by have := Si.room; omega)).mono ?_; rintro e ww ⟨rfl, hBw, hbw, -⟩; have Sw := Si.write hBw hbw))
    all_goals
      simp [Act.put]
      have hh : Nat := 0
      exact ⟨hh, rfl, by simpa using Sw⟩
  case hq =>
    rintro hh w5 S5
    obtain ⟨c0, c1, c2, c3⟩ := S5.cells
    have z5 := S5.room
    rcases Decidable.em (hi = lo) with hhl | hhl
    case' inl =>
      have hd : (hi != lo) = false := by simp [hhl]
      have HH := Lib.hid (show verdNm vd ++ [32] ++ Lib.itoa lo = headText ⟨vd, lo, hi, ts⟩ by simp [headText, highText, hhl])
      have S6 := Lib.hid S5
      clear hhl S5
      go_upto_region 5 with (fail)
      obtain ⟨w6, hw6⟩ : ∃ W, W = w5 := ⟨_, rfl⟩
      rw [← hw6] at S6
      rw [← hw6]
      clear c0 c1 c2 c3 z5 hw6
    case' inr =>
      have hd : (hi != lo) = true := by simp [hhl]
      have HH := Lib.hid (show verdNm vd ++ [32] ++ Lib.itoa lo ++ ([45] ++ Lib.itoa hi) = headText ⟨vd, lo, hi, ts⟩ by simp [headText, highText, hhl])
      have H5 := Lib.hid S5
      have p5 := HPW.out _ _ S5
      clear hhl S5
      go_upto_region 5 with (first
        | (go_at_call 71; refine (itoa_any _ _ p5 (by omega) (by omega)).mono ?_; rintro e wi ⟨rfl, hbi⟩; have Hi := Lib.hid (H5.out.next hbi); clear hbi)
        | (go_at_call 59; refine (bat_write _ _ _ _ ([45] ++ Lib.itoa hi) (ba_list2 [45] _) _ Hi.out.bat (by simp; omega) (by have := Hi.out.room; omega)).mono ?_; rintro e w6 ⟨rfl, hBw, hbw, -⟩; have S6 := Lib.hid (Hi.out.write hBw hbw); clear hBw hbw Hi H5))
      clear c0 c1 c2 c3 z5 p5
    all_goals
      rw [HH.out] at S6
      have S6' := S6.out
      obtain ⟨c0, c1, c2, c3⟩ := S6'.cells
      have a4 : (headText ⟨vd, lo, hi, ts⟩).length ≤ 27 := by
        rw [← HH.out]
        simp
        omega
      clear hd S6' HH c0 c1 c2
      go_wp2
      go_loopw [28] (fun i wr => ∃ k : Nat, k ≤ m ∧ i = .int .i64 k ∧ WrS w wr #[.int .i64 vd, .int .i64 lo, .int .i64 hi, .slice A m c] (headText ⟨vd, lo, hi, ts⟩ ++ testsText (ts.take k))) (fun i _ => m - (intOf i).toNat)
      case atStart => exact ⟨0, Nat.zero_le _, rfl, by simpa [testsText] using S6.out⟩
      case round =>
        obtain ⟨k, hk, rfl, hS⟩ := hrel
        have hzr := hS.room
        by_cases hkm : k < m
        · have hki : (k : Int) < m := by omega
          obtain ⟨b, off, t, rfl, hab, hgt, hcell⟩ := ts_get hA hkm
          obtain ⟨t0, t1, t2, t3⟩ := hcell _ _ hS.below hab
          have htk := HTS.out t (List.mem_of_getElem? hgt)
          have htx := testsText_len (ts.take k) (fun t ht => HTS.out t (List.mem_of_mem_take ht))
          rw [List.length_take] at htx
          obtain ⟨hf, hmk, hvv, hoo⟩ := testOkB_words htk
          have b1 := itoa10 (n := t.field) (by omega)
          have b2 := itoa10 (n := t.mask) (by omega)
          have b3 := itoa10 (n := t.value) (by omega)
          have b4 := signNm_len t.op
          have HT := Lib.hid (show headText ⟨vd, lo, hi, ts⟩ ++ testsText (ts.take (k + 1)) = headText ⟨vd, lo, hi, ts⟩ ++ testsText (ts.take k) ++ testText t by rw [testsText_take hgt, List.append_assoc])
          obtain ⟨L, hL⟩ : ∃ L, L = headText ⟨vd, lo, hi, ts⟩ ++ testsText (ts.take k) := ⟨_, rfl⟩
          have hLl : L.length ≤ 1000 := by rw [hL, List.length_append]; omega
          rw [← hL] at hS HT
          have S7 : WrS w (wr.alloc (.cells #[.int .i64 t.field, .int .i64 t.mask, .int .i64 t.op, .int .i64 t.value] 64)) #[.int .i64 vd, .int .i64 lo, .int .i64 hi, .slice (some ⟨b, off, none⟩) m c] L := hS.next (by go_grown)
          have T7 := Blk.new wr 64 #[.int .i64 t.field, .int .i64 t.mask, .int .i64 t.op, .int .i64 t.value]
          have p7 := HPW.out _ _ S7
          have HS7 := Lib.hid S7; have HT7 := Lib.hid T7
          clear hcell hgt htk htx hL hS S7 T7 S6 c3
          obtain ⟨f, mk, o, v⟩ := t
          simp only at t0 t1 t2 t3 hf hmk hvv hoo b1 b2 b3 b4
          have e1 : ¬ 9223372036854775807 < 2 + (Lib.itoa f).length := by omega
          have e2 : ¬ 9223372036854775807 < 1 + (Lib.itoa mk).length := by omega
          have e3 : ¬ 9223372036854775807 < (signNm o).length + (Lib.itoa v).length := by omega
          have hqb : wr.heap.size ≠ w.heap.size + 1 := by omega
          go_upto_region 9 with (first
            | (go_at_call 71; refine (itoa_any _ _ p7 (by omega) (by omega)).mono ?_; rintro e wi ⟨rfl, hbi⟩; have Hi := Lib.hid (HS7.out.next hbi); have Ti := Lib.hid (HT7.out.below hbi HT7.out.lt); clear hbi)
            | (go_at_call 59; refine (bat_write _ _ _ _ ([32, 97] ++ Lib.itoa f) (ba_list2 [32, 97] _) _ Hi.out.bat (by simp; omega) (by have := Hi.out.room; omega)).mono ?_; rintro e w8 ⟨rfl, hBw, hbw, hkw⟩; have S8 := Lib.hid (Hi.out.write hBw hbw); have T8 := Lib.hid (Ti.out.others hkw hqb (by decide)); clear hBw hbw hkw Hi Ti))
          clear HS7 HT7 p7 t0 t1 t2 t3
          have t1 : w8.cell? ⟨wr.heap.size, 1, none⟩ = some (.int .i64 mk) := T8.out.cell 1
          rcases Decidable.em (mk = 4294967295) with hmm | hmm
          case' inl =>
            have hdm : (mk != 4294967295) = false := by simp [hmm]
            have HM := Lib.hid (show maskText mk = [] by unfold maskText; rw [if_pos hmm])
            have S9 := Lib.hid (show WrS w w8 #[.int .i64 vd, .int .i64 lo, .int .i64 hi, .slice (some ⟨b, off, none⟩) m c] (L ++ ([32, 97] ++ Lib.itoa f) ++ maskText mk) by rw [HM.out, List.append_nil]; exact S8.out)
            have T9 := T8
            clear hmm HM S8 T8
            go_upto_region 11 with (fail)
            obtain ⟨w9, hw9⟩ : ∃ W, W = w8 := ⟨_, rfl⟩
            rw [← hw9] at S9 T9
            rw [← hw9]
            clear hw9 t1
          case' inr =>
            have hdm : (mk != 4294967295) = true := by simp [hmm]
            have HM := Lib.hid (show maskText mk = [38] ++ Lib.itoa mk by unfold maskText; rw [if_neg hmm]; rfl)
            have p8 := HPW.out _ _ S8.out
            clear hmm
            go_upto_region 11 with (first
              | (go_at_call 71; refine (itoa_any _ _ p8 (by omega) (by omega)).mono ?_; rintro e wi ⟨rfl, hbi⟩; have Hi := Lib.hid (S8.out.next hbi); have Ti := Lib.hid (T8.out.below hbi T8.out.lt); clear hbi)
              | (go_at_call 59; refine (bat_write _ _ _ _ ([38] ++ Lib.itoa mk) (ba_list2 [38] _) _ Hi.out.bat (by simp; omega) (by have := Hi.out.room; omega)).mono ?_; rintro e w9 ⟨rfl, hBw, hbw, hkw⟩; have S9 := Lib.hid (show WrS w w9 #[.int .i64 vd, .int .i64 lo, .int .i64 hi, .slice (some ⟨b, off, none⟩) m c] (L ++ ([32, 97] ++ Lib.itoa f) ++ maskText mk) by rw [HM.out]; exact Hi.out.write hBw hbw); have T9 := Lib.hid (Ti.out.others hkw hqb (by decide)); clear hBw hbw hkw Hi Ti))
            clear t1 p8 S8 T8 HM
          all_goals
            have hml : (maskText mk).length ≤ 11 := maskText_len hmk
            have S9d : WrS w w9.drew #[.int .i64 vd, .int .i64 lo, .int .i64 hi, .slice (some ⟨b, off, none⟩) m c] (L ++ ([32, 97] ++ Lib.itoa f) ++ maskText mk) := S9.out.next (by go_grown)
            have T9d : Blk w9.drew wr.heap.size 64 #[.int .i64 f, .int .i64 mk, .int .i64 o, .int .i64 v] := T9.out.drew
            have p9 := HPW.out _ _ S9d
            have t2 : w9.drew.cell? ⟨wr.heap.size, 2, none⟩ = some (.int .i64 o) := T9d.cell 2
            have t3 : w9.drew.cell? ⟨wr.heap.size, 3, none⟩ = some (.int .i64 v) := T9d.cell 3
            have HS9 := Lib.hid S9d; have HT9 := Lib.hid T9d; have HP9 := Lib.hid p9
            clear S9d T9d p9 S9 T9
            apply region_mid (R := fun hh w' => WrS w w' #[.int .i64 vd, .int .i64 lo, .int .i64 hi, .slice (some ⟨b, off, none⟩) m c] (L ++ ([32, 97] ++ Lib.itoa f) ++ maskText mk ++ (signNm o ++ Lib.itoa v)))
            case hr =>
              go_region_law (first
                | (go_simp; go_at_call 72; refine (sign_any _ _).mono ?_; rintro e w0 ⟨rfl, rfl⟩)
                | (go_simp; go_at_call 71; refine (itoa_any _ _ HP9.out (by omega) (by omega)).mono ?_; rintro e wi ⟨rfl, hbi⟩; have Si := HS9.out.next hbi; have Ti := HT9.out.below hbi HT9.out.lt; replace t2 := (show _ = some (Value.int .i64 o) from Ti.cell 2); replace t3 := (show _ = some (Value.int .i64 v) from Ti.cell 3))
                | (go_simp; go_at_call 59; refine (bat_write _ _ _ _ (signNm o ++ Lib.itoa v) (ba_list2 _ _) _ Si.bat (by simp; omega) (by have := Si.room; omega)).mono ?_; rintro e ww ⟨rfl, hBw, hbw, -⟩; have Sw := Si.write hBw hbw))
              all_goals
                simp [Act.put]
                have hh : Nat := 0
                exact ⟨hh, rfl, by simpa using Sw⟩
            case hq =>
              rintro hh w10 S10
              have HX := Lib.hid S10
              clear S10
              go_wp2
              refine ⟨⟨k + 1, by omega, by go_num, ?_⟩, by simp [intOf]; omega⟩
              rw [HT.out]
              have := HX.out
              simpa [testText, List.append_assoc] using this
        · obtain rfl : k = m := by omega
          have HX := Lib.hid hS
          have hE : headText ⟨vd, lo, hi, ts⟩ ++ (testsText (ts.take k) ++ [10]) = ruleText ⟨vd, lo, hi, ts⟩ := by rw [List.take_of_length_le (by rw [HTL.out]; omega), ← List.append_assoc]; rfl
          have htx := testsText_len (ts.take k) (fun t ht => HTS.out t (List.mem_of_mem_take ht))
          rw [List.length_take] at htx
          have HEE := Lib.hid hE
          clear hE hS
          go_wp2_with (first
            | (go_at_call 59; refine (bat_write _ _ _ _ [10] rfl _ HX.out.bat (by simp; omega) (by omega)).mono ?_; rintro e w8 ⟨rfl, hBw, hbw, -⟩; have S8 := HX.out.write hBw hbw; clear hBw hbw)
            | (go_at_call 62; refine (Tryz.Builder_String_any _ _ _ _ S8.bat (by have := S8.room; omega)).mono ?_; rintro e w9 ⟨rfl, hb9⟩))
          go_ret
          exact ⟨by rw [HEE.out]; rfl, S8.below.trans (hb9.mono (by omega))⟩
end Go.Proofs.YtkiacbfpnidjlaaGreatDoor

-- impl's policies: policyLines, PolicyWrite, PolicyOk.
namespace Go.Proofs.YtkiacbfpnidjlaaGreatDoor
open Go.RowKit
set_option linter.unusedSimpArgs false
set_option linter.unusedVariables false

/-- How the world stands while a policy is written. -/
structure PoS (w wr : World) (cs : Array Value) (l : List UInt8) : Prop where
  bat : BAt (w.heap.size + 1) (w.heap.size + 1) l wr
  pol : Blk wr w.heap.size 33 cs
  below : Below w.heap.size w wr
theorem PoS.room {w wr : World} {cs : Array Value} {l : List UInt8} (h : PoS w wr cs l) : w.heap.size + 1 < wr.heap.size := h.bat.lt
theorem PoS.next {w wr w1 : World} {cs : Array Value} {l : List UInt8} (h : PoS w wr cs l) (hb : Below wr.heap.size wr w1) : PoS w w1 cs l :=
  ⟨h.bat.below hb, h.pol.below hb h.pol.lt, below_then h.below hb⟩
theorem PoS.write {w wr w1 : World} {cs : Array Value} {l m : List UInt8} (h : PoS w wr cs l) (hb : BAt (w.heap.size + 1) (w.heap.size + 1) m w1) (hw : Below (w.heap.size + 1) wr w1) : PoS w w1 cs m :=
  ⟨hb, h.pol.below hw (by omega), h.below.trans (hw.mono (by omega))⟩
theorem PoS.start (w : World) (cs : Array Value) : PoS w ((w.alloc (.cells cs 33)).alloc (.cells #[.pointer none, .slice none 0 0] 94)) cs [] := by
  refine ⟨?_, (Blk.new w _ _).alloc _, by go_grown⟩
  have := Lib.fresh_isBuilder 94 5 (w.alloc (.cells cs 33))
  simpa [BAt, Lib.byteCells] using this
theorem polShape_no_rule {rs : List Rl} {els : Int} {k : Nat} {r : Rl} (hg : rs[k]? = some r) (hr : ruleOkB r = false) : polShapeB ⟨rs, els⟩ = false := by
  cases h : polShapeB ⟨rs, els⟩ with
  | false => rfl
  | true =>
    have := (polShapeB_words h).2.2 r (List.mem_of_getElem? hg)
    rw [hr] at this
    cases this
def shapeText (p : Pol) : List UInt8 := if polShapeB p then polText p else []
theorem shapeText_yes {p : Pol} (h : polShapeB p = true) : shapeText p = polText p := by unfold shapeText; rw [if_pos h]
theorem shapeText_no {p : Pol} (h : polShapeB p = false) : shapeText p = [] := by unfold shapeText; rw [if_neg (by simp [h])]

set_option maxRecDepth 100000 in
set_option maxHeartbeats 8000000 in
theorem policyLines_any (p : Pol) (v : Value) (w : World) (hP : PolIs w p v) (hp : Pow w) :
    Calls Tryz.prog 46 #[v] w fun e w' => e = .returned (.tuple #[.string ⟨(shapeText p).toArray⟩, .bool (polShapeB p)]) ∧ Below w.heap.size w w' := by
  obtain ⟨rs, els⟩ := p
  obtain ⟨rv, css, rfl, hS, hR⟩ := hP
  simp only at hR ⊢
  obtain ⟨A, n, c, rfl, hSA⟩ := hS
  have htn : rs.length = n := by rw [← hR.1]; exact hSA.len
  have hc := hSA.cap
  have hm := hSA.max
  unfold maxLen at hm
  have HRA := Lib.hid hR; have HL := Lib.hid htn; clear hR htn
  by_cases h8 : n ≤ 8
  · have h8i : ¬ (8 : Int) < n := by omega
    cases hE : decide (1 ≤ els ∧ els ≤ 4) with
    | false =>
      have hE2 : polShapeB ⟨rs, els⟩ = false := by simp [polShapeB, dec_range hE]
      have HN1 := Lib.hid hE2; have HN2 := Lib.hid (shapeText_no hE2); clear hE2
      go_enter Tryz.func46, Tryz.ntmps46
      go_wp2_with (go_at_call 57; refine (verdictOk_any _ _).mono ?_; rintro e w' ⟨rfl, rfl⟩)
      go_ret2
      exact ⟨by rw [HN1.out, HN2.out]; rfl, by go_grown⟩
    | true =>
      have hE1 := dec_range hE
      have hels : 1 ≤ els ∧ els ≤ 4 := by simpa using hE
      have a1 := verdNm_len els
      have S0 := PoS.start w #[.slice A n c, .int .i64 els]
      have HE := Lib.hid hE1
      have e1 : ¬ 9223372036854775807 < 5 + (verdNm els).length := by omega
      have e2 : ¬ 9223372036854775807 < 5 + (verdNm els).length + 1 := by omega
      clear hE1
      go_enter Tryz.func46, Tryz.ntmps46
      go_wp2_with (go_at_call 57; refine (verdictOk_any _ _).mono ?_; rintro e w' ⟨rfl, rfl⟩)
      go_loopw [20] (fun i wr => ∃ k : Nat, k ≤ n ∧ i = .int .i64 k ∧ Hid (∀ r ∈ rs.take k, ruleOkB r = true) ∧ PoS w wr #[.slice A n c, .int .i64 els] (rulesText (rs.take k))) (fun i _ => n - (intOf i).toNat)
      case atStart => exact ⟨0, Nat.zero_le _, rfl, Lib.hid (fun r hr => by simp at hr), by simpa [rulesText] using S0⟩
      case round =>
        obtain ⟨k, hk, rfl, HALL, hPS⟩ := hrel
        have hzr := hPS.room
        have htx := rulesText_len (rs.take k) HALL.out
        rw [List.length_take] at htx
        clear S0
        by_cases hkn : k < n
        · have hki : (k : Int) < n := by omega
          obtain ⟨b, off, r, tv, hAe, hab, hgp, hsl, hcell⟩ := rules_get hSA HRA.out hkn
          have hsl0 := hsl
          obtain ⟨A2, m2, d2, rfl, -⟩ := hsl0
          obtain ⟨c0, c1, c2, c3⟩ := hcell _ _ hPS.below hab
          have hAl : Below wr.heap.size wr (wr.alloc (.cells #[.int .i64 r.verdict, .int .i64 r.low, .int .i64 r.high, .slice A2 m2 d2] 61)) := by go_grown
          have S6 := hPS.next hAl
          have hsl6 := (hsl.below hPS.below).below hAl
          have T6 := Blk.new wr 61 #[.int .i64 r.verdict, .int .i64 r.low, .int .i64 r.high, .slice A2 m2 d2]
          have HG := Lib.hid hgp; have HS6 := Lib.hid S6; have HSL := Lib.hid hsl6; have HT6 := Lib.hid T6
          have HTX := Lib.hid (rulesText_take hgp)
          clear hcell hgp hsl S6 hsl6 T6 hAl
          subst hAe
          cases hro : ruleOkB r with
          | false =>
            have hN := polShape_no_rule (els := els) HG.out hro
            have HN1 := Lib.hid hN; have HN2 := Lib.hid (shapeText_no hN); clear hN
            go_wp2_with fail
            refine (iruleOk_any r _ _ HSL.out).mono ?_; rintro e w2 ⟨rfl, hb2⟩
            rw [hro]
            have hb3 := below_then HS6.out.below hb2
            go_wp2
            go_ret2
            exact ⟨by rw [HN1.out, HN2.out]; rfl, hb3⟩
          | true =>
            have HRO := Lib.hid hro
            have hrl := ruleText_len hro
            go_wp2_with fail
            refine (iruleOk_any r _ _ HSL.out).mono ?_; rintro e w2 ⟨rfl, hb2⟩
            rw [HRO.out]
            have S7 := HS6.out.next hb2
            have T7 := HT6.out.below hb2 HT6.out.lt
            have sl7 := HSL.out.below hb2
            have t0 := (show _ = some (Value.int .i64 r.verdict) from T7.cell 0); have t1 := (show _ = some (Value.int .i64 r.low) from T7.cell 1); have t2 := (show _ = some (Value.int .i64 r.high) from T7.cell 2); have t3 := (show _ = some (Value.slice A2 m2 d2) from T7.cell 3)
            have HS7 := Lib.hid S7; have HSL7 := Lib.hid sl7
            clear S7 T7 sl7 hb2 c0 c1 c2 c3 hro
            go_wp2_with fail
            refine (writeRule_any r _ _ HSL7.out (hp.below HS7.out.below) HRO.out).mono ?_; rintro e w3 ⟨rfl, hb3⟩
            have S8 := Lib.hid (HS7.out.next hb3)
            clear hb3 t0 t1 t2 t3
            go_wp2_with (go_at_call 59; refine (bat_write _ _ _ _ (ruleText r) rfl _ S8.out.bat (by omega) (by have := S8.out.room; omega)).mono ?_; rintro e w8 ⟨rfl, hBw, hbw, -⟩; have S9 := Lib.hid (S8.out.write hBw hbw); clear hBw hbw)
            refine ⟨⟨k + 1, by omega, by go_num, Lib.hid (take_all_snoc HALL.out HG.out HRO.out), ?_⟩, by simp [intOf]; omega⟩
            rw [HTX.out]
            exact S9.out
        · obtain rfl : k = n := by omega
          have hsh : polShapeB ⟨rs, els⟩ = true := by
            have h := HALL.out
            rw [List.take_of_length_le (by rw [HL.out]; omega)] at h
            simp only [polShapeB, Bool.and_eq_true, decide_eq_true_eq, List.all_eq_true]
            exact ⟨⟨by rw [HL.out]; omega, HE.out⟩, h⟩
          have hE : rulesText (rs.take k) ++ ([101, 108, 115, 101, 32] ++ verdNm els ++ [10]) = shapeText ⟨rs, els⟩ := by
            rw [shapeText_yes hsh, List.take_of_length_le (by rw [HL.out]; omega)]
            simp [polText]
          have HSH := Lib.hid hsh; have HEE := Lib.hid hE; have HS := Lib.hid hPS
          have c1 := (show _ = some (Value.int .i64 els) from hPS.pol.cell 1)
          clear hsh hE hPS
          go_wp2_with (first
            | (go_at_call 61; refine (verdictName_any _ _).mono ?_; rintro e w0 ⟨rfl, rfl⟩)
            | (go_at_call 59; refine (bat_write _ _ _ _ ([101, 108, 115, 101, 32] ++ verdNm els ++ [10]) (ba_list3 [101, 108, 115, 101, 32] _ [10]) _ HS.out.bat (by simp; omega) (by omega)).mono ?_; rintro e w8 ⟨rfl, hBw, hbw, -⟩; have S8 := HS.out.write hBw hbw; clear hBw hbw; rw [HEE.out] at S8)
            | (go_at_call 62; refine (Tryz.Builder_String_any _ _ _ _ S8.bat (by have := S8.room; omega)).mono ?_; rintro e w9 ⟨rfl, hb9⟩))
          go_ret2
          exact ⟨by rw [HSH.out]; rfl, S8.below.trans (hb9.mono (by omega))⟩
  · have h8i : (8 : Int) < n := by omega
    have hE2 : polShapeB ⟨rs, els⟩ = false := by simp [polShapeB, HL.out, h8]
    have HN1 := Lib.hid hE2; have HN2 := Lib.hid (shapeText_no hE2); clear hE2
    go_enter Tryz.func46, Tryz.ntmps46
    go_wp2_with (go_at_call 57; refine (verdictOk_any _ _).mono ?_; rintro e w' ⟨rfl, rfl⟩)
    go_ret2
    exact ⟨by rw [HN1.out, HN2.out]; rfl, by go_grown⟩

def polOut (p : Pol) : List UInt8 := if polOkB p then polText p else []
theorem polText_ne (p : Pol) : polText p ≠ [] := by unfold polText; simp

set_option maxHeartbeats 2000000 in
theorem iPolicyWrite_any (p : Pol) (v : Value) (w : World) (hP : PolIs w p v) (hp : Pow w) :
    Calls Tryz.prog 34 #[v] w fun e w' => e = .returned (.string ⟨(polOut p).toArray⟩) ∧ Below w.heap.size w w' := by
  have HP := Lib.hid hP
  obtain ⟨rv, css, rfl, hS, hR⟩ := hP
  have hb0 : Below w.heap.size w (w.alloc (.cells #[rv, .int .i64 p.els] 33)) := by go_grown
  clear hS hR
  cases hsh : polShapeB p with
  | false =>
    have HO := Lib.hid (show polOut p = [] by unfold polOut polOkB; rw [hsh]; rfl)
    have HN := Lib.hid (shapeText_no hsh)
    go_enter Tryz.func34, Tryz.ntmps34
    go_wp2_with fail
    refine (policyLines_any p _ _ (HP.out.below hb0) (hp.below hb0)).mono ?_; rintro e w1 ⟨rfl, hb1⟩
    rw [hsh, HN.out]
    go_wp2
    go_ret
    exact ⟨by rw [HO.out]; rfl, below_then hb0 hb1⟩
  | true =>
    have HN := Lib.hid (shapeText_yes hsh)
    by_cases hl : (polText p).length ≤ 900
    · have HO := Lib.hid (show polOut p = polText p by unfold polOut polOkB; rw [hsh]; simp [hl])
      go_enter Tryz.func34, Tryz.ntmps34
      go_wp2_with fail
      refine (policyLines_any p _ _ (HP.out.below hb0) (hp.below hb0)).mono ?_; rintro e w1 ⟨rfl, hb1⟩
      rw [hsh, HN.out]
      go_wp2
      go_ret
      exact ⟨by rw [HO.out]; rfl, below_then hb0 hb1⟩
    · have HO := Lib.hid (show polOut p = [] by unfold polOut polOkB; rw [hsh]; simp [hl])
      have hl2 : 900 < (polText p).length := by omega
      clear hl
      go_enter Tryz.func34, Tryz.ntmps34
      go_wp2_with fail
      refine (policyLines_any p _ _ (HP.out.below hb0) (hp.below hb0)).mono ?_; rintro e w1 ⟨rfl, hb1⟩
      rw [hsh, HN.out]
      go_wp2
      go_ret
      exact ⟨by rw [HO.out]; rfl, below_then hb0 hb1⟩

set_option maxHeartbeats 2000000 in
theorem iPolicyOk_any (p : Pol) (v : Value) (w : World) (hP : PolIs w p v) (hp : Pow w) :
    Calls Tryz.prog 18 #[v] w fun e w' => e = .returned (.bool (polOkB p)) ∧ Below w.heap.size w w' := by
  have HP := Lib.hid hP
  obtain ⟨rv, css, rfl, hS, hR⟩ := hP
  have hb0 : Below w.heap.size w (w.alloc (.cells #[rv, .int .i64 p.els] 33)) := by go_grown
  clear hS hR
  cases hok : polOkB p with
  | false =>
    have HO := Lib.hid (show polOut p = [] by unfold polOut; rw [hok]; rfl)
    have HOK := Lib.hid hok; clear hok
    go_enter Tryz.func18, Tryz.ntmps18
    go_wp2_with fail
    refine (iPolicyWrite_any p _ _ (HP.out.below hb0) (hp.below hb0)).mono ?_; rintro e w1 ⟨rfl, hb1⟩
    rw [HO.out]
    go_wp2
    go_ret
    exact ⟨rfl, below_then hb0 hb1⟩
  | true =>
    have HO := Lib.hid (show polOut p = polText p by unfold polOut; rw [hok]; rfl)
    have hne : ((polText p) == []) = false := by
      have := polText_ne p
      cases h : polText p with
      | nil => exact absurd h this
      | cons a b => rfl
    have hib : (polText p).isEmpty = false := by
      cases h : polText p with
      | nil => rw [h] at hne; cases hne
      | cons a b => rfl
    have HOK := Lib.hid hok; clear hok
    go_enter Tryz.func18, Tryz.ntmps18
    go_wp2_with fail
    refine (iPolicyWrite_any p _ _ (HP.out.below hb0) (hp.below hb0)).mono ?_; rintro e w1 ⟨rfl, hb1⟩
    rw [HO.out]
    go_wp2
    go_ret
    exact ⟨rfl, below_then hb0 hb1⟩
end Go.Proofs.YtkiacbfpnidjlaaGreatDoor

-- impl's graphs of policies: GraphMake, exactly.
namespace Go.Proofs.YtkiacbfpnidjlaaGreatDoor
open Go.RowKit Go.Maps
set_option linter.unusedSimpArgs false
set_option linter.unusedVariables false

end Go.Proofs.YtkiacbfpnidjlaaGreatDoor
