/- Joined texts: PolS PolS2 PolS3. -/
import Derived.Test.YtkiacbfpnidjlaaGreatDoorTxt
import Derived.Deep.QuietTactic
import Derived.Deep.RegionLaw
-- spec's policies: l2TestOk, l2Word, l2Line, l2Write, PolicyOk.
namespace Go.Proofs.YtkiacbfpnidjlaaGreatDoor
open Go.RowKit
set_option linter.unusedSimpArgs false
set_option linter.unusedVariables false

set_option maxHeartbeats 2000000 in
theorem l2TestOk_any (t : Ts) (w : World) :
    Calls Tryz.prog 28 #[.agg #[.int .i64 t.field, .int .i64 t.mask, .int .i64 t.op, .int .i64 t.value]] w fun e w' => e = .returned (.bool (testOkB t)) ∧ Below w.heap.size w w' := by
  obtain ⟨f, m, o, v⟩ := t
  cases h1 : inB f 1 4 <;> cases h2 : inB m 1 4294967295 <;> cases h3 : inB v 0 4294967295 <;> cases h4 : inB o 1 3 <;> cases h5 : (o == 1)
  all_goals
    have H := Lib.hid (show testOkB ⟨f, m, o, v⟩ = (inB f 1 4 && inB m 1 4294967295 && inB v 0 4294967295 && inB o 1 3 && (if (o == 1) = true then bits .and .i64 v m == v else m == 4294967295)) from rfl)
    have E1 := Lib.hid h1; have E2 := Lib.hid h2; have E3 := Lib.hid h3; have E4 := Lib.hid h4; have E5 := Lib.hid h5
    go_enter Tryz.func28, Tryz.ntmps28
    go_wp2_with (go_at_call 27; refine (l1In_any _ _ _ _).mono ?_; rintro e w' ⟨rfl, rfl⟩)
    go_ret
    refine ⟨ret_bool ?_, by go_grown⟩
    rw [H.out, E1.out, E2.out, E3.out, E4.out, E5.out]
    simp [wrap64]

theorem l2Word_any (n : Int) (w : World) (h : 0 ≤ n ∧ n ≤ 4) :
    Calls Tryz.prog 42 #[.int .i64 n] w fun e w' => e = .returned (.string ⟨(verdNm n).toArray⟩) ∧ Below w.heap.size w w' := by
  obtain rfl | rfl | rfl | rfl | rfl : n = 0 ∨ n = 1 ∨ n = 2 ∨ n = 3 ∨ n = 4 := by omega
  all_goals
    go_enter Tryz.func42, Tryz.ntmps42
    go_wp2
    go_ret
    exact ⟨rfl, by go_grown⟩

theorem s32 : (⟨#[32]⟩ : ByteArray) = ⟨([32] : List UInt8).toArray⟩ := rfl
theorem s10 : (⟨#[10]⟩ : ByteArray) = ⟨([10] : List UInt8).toArray⟩ := rfl
theorem s45 : (⟨#[45]⟩ : ByteArray) = ⟨([45] : List UInt8).toArray⟩ := rfl
theorem s38 : (⟨#[38]⟩ : ByteArray) = ⟨([38] : List UInt8).toArray⟩ := rfl
theorem s3297 : (⟨#[32, 97]⟩ : ByteArray) = ⟨([32, 97] : List UInt8).toArray⟩ := rfl
theorem sElse : (⟨#[101, 108, 115, 101, 32]⟩ : ByteArray) = ⟨([101, 108, 115, 101, 32] : List UInt8).toArray⟩ := rfl
theorem str_eq {a b : List UInt8} (h : a = b) : Value.string ⟨a.toArray⟩ = .string ⟨b.toArray⟩ := by rw [h]
/-- The signs as they lie. -/
theorem sign_at {w : World} {g : Nat} {t : TypeId} (h : Blk w g t #[.string ⟨#[]⟩, .string ⟨#[61]⟩, .string ⟨#[60]⟩, .string ⟨#[62]⟩]) {n : Nat} (hn : n ≤ 3) : w.cell? ⟨g, n, none⟩ = some (.string ⟨(signNm (n : Int)).toArray⟩) := by
  rw [h.cell n]
  obtain rfl | rfl | rfl | rfl : n = 0 ∨ n = 1 ∨ n = 2 ∨ n = 3 := by omega
  all_goals rfl
end Go.Proofs.YtkiacbfpnidjlaaGreatDoor

-- spec's policies: l2Line, l2Write, PolicyOk.
namespace Go.Proofs.YtkiacbfpnidjlaaGreatDoor
open Go.RowKit
set_option linter.unusedSimpArgs false
set_option linter.unusedVariables false

theorem s0 : (⟨#[]⟩ : ByteArray) = ⟨([] : List UInt8).toArray⟩ := rfl
theorem s61 : (⟨#[61]⟩ : ByteArray) = ⟨([61] : List UInt8).toArray⟩ := rfl
theorem s60 : (⟨#[60]⟩ : ByteArray) = ⟨([60] : List UInt8).toArray⟩ := rfl
theorem s62 : (⟨#[62]⟩ : ByteArray) = ⟨([62] : List UInt8).toArray⟩ := rfl

theorem cell_alloc_lt {w : World} {a : Addr} {v : Value} (h : w.cell? a = some v) (hl : a.block < w.heap.size) (o : Obj) : (w.alloc o).cell? a = some v :=
  ((show Below w.heap.size w (w.alloc o) by go_grown).cell hl).trans h

set_option maxHeartbeats 16000000 in
theorem l2Line_any (r : Rl) (tv : Value) (w : World) (hT : Sl w 4 tv (tsR r.tests)) (hok : ruleOkB r = true) :
    Calls Tryz.prog 41 #[.agg #[.int .i64 r.verdict, .int .i64 r.low, .int .i64 r.high, tv]] w fun e w' => e = .returned (.string ⟨(ruleText r).toArray⟩) ∧ Below w.heap.size w w' := by
  have hw := ruleOkB_words hok
  obtain ⟨vd, lo, hi, ts⟩ := r
  simp only at hT hw ⊢
  obtain ⟨⟨v0, v1⟩, ⟨l0, l1⟩, h1, n4, hts⟩ := hw
  obtain ⟨A, n, c, rfl, hA⟩ := hT
  have hn : ts.length = n := by have := hA.len; rwa [tsR_len] at this
  have hc := hA.cap
  have hm := hA.max
  unfold maxLen at hm
  rw [hn] at n4
  have a1 := verdNm_len vd
  have a2 := itoa10 (n := lo) (by omega)
  have a3 := itoa10 (n := hi) (by omega)
  have hhd := headText_len hok
  have HL := Lib.hid hn; have HT := Lib.hid hts; clear hn hts hok
  have d1 : ¬ 9223372036854775807 < (verdNm vd).length + 1 := by omega
  have d2 : ¬ 9223372036854775807 < (verdNm vd).length + 1 + (Lib.itoa lo).length := by omega
  have d3 : ¬ 9223372036854775807 < (verdNm vd).length + 1 + (Lib.itoa lo).length + 1 := by omega
  have d4 : ¬ 9223372036854775807 < (verdNm vd).length + 1 + (Lib.itoa lo).length + 1 + (Lib.itoa hi).length := by omega
  go_enter Tryz.func41, Tryz.ntmps41
  go_wp2
  have B0 := Blk.new w 61 #[.int .i64 vd, .int .i64 lo, .int .i64 hi, .slice A n c]
  have hb0 : Below w.heap.size w (w.alloc (.cells #[.int .i64 vd, .int .i64 lo, .int .i64 hi, .slice A n c] 61)) := by go_grown
  have hs0 : (w.alloc (.cells #[.int .i64 vd, .int .i64 lo, .int .i64 hi, .slice A n c] 61)).heap.size = w.heap.size + 1 := by simp
  obtain ⟨W, hW⟩ : ∃ W, W = w.alloc (.cells #[.int .i64 vd, .int .i64 lo, .int .i64 hi, .slice A n c] 61) := ⟨_, rfl⟩
  rw [← hW] at B0 hb0 hs0
  rw [← hW]
  clear hW
  have q0 : W.cell? ⟨w.heap.size, 0, none⟩ = some (.int .i64 vd) := B0.cell 0
  have q1 : W.cell? ⟨w.heap.size, 1, none⟩ = some (.int .i64 lo) := B0.cell 1
  have r0 := cell_regrown q0; have r1 := cell_regrown q1
  refine wp_region_quiet_below (by kernel_rfl) (by kernel_rfl) ?_
  repeat (quiet_step (first | exact Calls.regrown_of (l2Word_any _ _ (by omega)) | exact Calls.regrown_of (l1Dec_any _ _ (by omega) (by omega))))
  refine wpQuiet_nil ?_
  intro W2 hw'
  have hb2 : Below W.heap.size W W2 := by obtain ⟨⟨dq, osq⟩, hw''⟩ := hw'; subst hw''; exact below_regrown _ _ _
  clear hw' r0 r1 q0 q1
  have B2 := B0.below hb2 B0.lt
  have p1 : W2.cell? ⟨w.heap.size, 1, none⟩ = some (.int .i64 lo) := B2.cell 1
  have p2 : W2.cell? ⟨w.heap.size, 2, none⟩ = some (.int .i64 hi) := B2.cell 2
  have hb02 : Below w.heap.size w W2 := below_step hb0 (by omega) hb2
  clear hb2 hb0 B0 d1 d2
  rcases Decidable.em (hi = lo) with hh | hh
  case' inl =>
    have hd : (hi != lo) = false := by simp [hh]
    have HH := Lib.hid (show headText ⟨vd, lo, hi, ts⟩ = verdNm vd ++ [32] ++ Lib.itoa lo by simp [headText, highText, hh])
    have B3 := B2
    have hb3 := hb02
    clear hh d3 d4 B2 hb02
    go_wp2
  case' inr =>
    have hd : (hi != lo) = true := by simp [hh]
    have HH := Lib.hid (show headText ⟨vd, lo, hi, ts⟩ = verdNm vd ++ [32] ++ Lib.itoa lo ++ [45] ++ Lib.itoa hi by simp [headText, highText, hh])
    clear hh
    go_wp2_with fail
    refine (l1Dec_any hi _ (by omega) (by omega)).mono ?_
    rintro e W3 ⟨rfl, hb23⟩
    have B3 := B2.below hb23 B2.lt
    have hb3 : Below w.heap.size w W3 := below_step hb02 hb02.size hb23
    clear B2 hb02 hb23 p1 p2 d3 d4
    go_wp2
  all_goals
    go_loopw [3, 4] (fun o i wr => ∃ k : Nat, k ≤ n ∧ i = .int .i64 k ∧ o = .string ⟨(headText ⟨vd, lo, hi, ts⟩ ++ testsText (ts.take k)).toArray⟩ ∧ Blk wr w.heap.size 61 #[.int .i64 vd, .int .i64 lo, .int .i64 hi, .slice A n c] ∧ Below w.heap.size w wr) (fun _ i _ => n - (intOf i).toNat)
    case atStart =>
      refine ⟨0, by omega, rfl, ?_, B3, hb3⟩
      simp only [s32, s45, ba_append]
      apply str_eq
      rw [HH.out]
      simp [testsText]
    case round =>
      obtain ⟨k, hk, rfl, ho, BR, hb⟩ := hrel
      have htl := testsText_len (ts.take k) (fun t ht => HT.out t (List.mem_of_mem_take ht))
      obtain ⟨o, ho2⟩ : ∃ o, o = headText ⟨vd, lo, hi, ts⟩ ++ testsText (ts.take k) := ⟨_, rfl⟩
      have hol : o.length ≤ 200 := by rw [ho2]; simp only [List.length_append]; have := List.length_take_le k ts; rw [List.length_take] at htl; have := HL.out; omega
      rw [← ho2] at ho
      subst ho
      have HO := Lib.hid ho2; clear ho2 htl
      have hRl := BR.lt
      have b3 : wr.cell? ⟨w.heap.size, 3, none⟩ = some (.slice A n c) := BR.cell 3
      by_cases hlt : k < n
      · obtain ⟨b, off, t, rfl, hab, hgp, hcell⟩ := ts_get hA hlt
        obtain ⟨c0, c1, c2, c3⟩ := hcell wr _ hb hab
        have htok := HT.out t (List.mem_of_getElem? hgp)
        obtain ⟨t1, t2, t3, t4⟩ := testOkB_words htok
        have HG := Lib.hid (testsText_take hgp); clear hgp hcell htok
        obtain ⟨f, m, op, v⟩ := t
        simp only at c0 c1 c2 c3 t1 t2 t3 t4
        have x1 := itoa10 (n := f) (by omega)
        have x2 := itoa10 (n := m) (by omega)
        have x3 := itoa10 (n := v) (by omega)
        have x4 := signNm_len op
        have e1 : ¬ 9223372036854775807 < o.length + 2 := by omega
        have e2 : ¬ 9223372036854775807 < o.length + 2 + (Lib.itoa f).length := by omega
        have TB := Blk.new wr 64 #[.int .i64 f, .int .i64 m, .int .i64 op, .int .i64 v]
        go_wp2_with fail
        refine (l1Dec_any f _ (by omega) (by omega)).mono ?_
        rintro e W5 ⟨rfl, hb4⟩
        have T4 := TB.below hb4 TB.lt
        have hb4' : Below wr.heap.size wr W5 := below_step (by go_grown) (by go_size) hb4
        have R4 := BR.below hb4' hRl
        have g1 : W5.cell? ⟨wr.heap.size, 1, none⟩ = some (.int .i64 m) := T4.cell 1
        clear hb4 TB
        rcases Decidable.em (m = 4294967295) with hmm | hmm
        case' inl =>
          have hd : (m != 4294967295) = false := by simp [hmm]
          have HM := Lib.hid (show maskText m = [] by simp [maskText, hmm])
          obtain ⟨M, hM⟩ : ∃ M : List UInt8, M = o ++ [32, 97] ++ Lib.itoa f := ⟨_, rfl⟩
          have T5 := T4
          have R5 := R4
          have hb5 := hb4'
          have hMl : M.length ≤ 250 := by rw [hM]; simp; omega
          have HM2 := Lib.hid hM
          clear hmm T4 R4 hb4' hM
          go_wp2
        case' inr =>
          have hd : (m != 4294967295) = true := by simp [hmm]
          have HM := Lib.hid (show maskText m = [38] ++ Lib.itoa m by simp [maskText, hmm])
          obtain ⟨M, hM⟩ : ∃ M : List UInt8, M = o ++ [32, 97] ++ Lib.itoa f ++ [38] ++ Lib.itoa m := ⟨_, rfl⟩
          have hMl : M.length ≤ 250 := by rw [hM]; simp; omega
          have HM2 := Lib.hid hM
          have e3 : ¬ 9223372036854775807 < o.length + 2 + (Lib.itoa f).length + 1 := by omega
          have e4 : ¬ 9223372036854775807 < o.length + 2 + (Lib.itoa f).length + 1 + (Lib.itoa m).length := by omega
          clear hmm hM
          go_wp2_with fail
          refine (l1Dec_any m _ (by omega) (by omega)).mono ?_
          rintro e W5 ⟨rfl, hb5'⟩
          have T5 := T4.below hb5' T4.lt
          have R5 := R4.below hb5' R4.lt
          have hb5 : Below wr.heap.size wr W5 := below_step hb4' hb4'.size hb5'
          clear T4 R4 hb4' hb5' g1 e3 e4
          go_wp2
        all_goals
          simp only [s3297, s38, ba_append]
          rw [← HM2.out]
          have y2 : W5.cell? ⟨wr.heap.size, 2, none⟩ = some (.int .i64 op) := T5.cell 2
          have y3 : W5.cell? ⟨wr.heap.size, 3, none⟩ = some (.int .i64 v) := T5.cell 3
          have hT5 := T5.lt
          obtain ⟨j, rfl⟩ : ∃ j : Nat, op = j := ⟨op.toNat, by omega⟩
          have hj4 : (j : Int) < 4 := by omega
          have e5 : ¬ 9223372036854775807 < M.length + (signNm (j : Int)).length := by omega
          have e6 : ¬ 9223372036854775807 < M.length + (signNm (j : Int)).length + (Lib.itoa v).length := by omega
          have HJ := Lib.hid (show j ≤ 3 by omega); have HV := Lib.hid t3
          have s1 := (show (W5.alloc (.cells #[.string ⟨#[]⟩, .string ⟨#[61]⟩, .string ⟨#[60]⟩, .string ⟨#[62]⟩] 9)).cell? ⟨W5.heap.size, j, none⟩ = _ from sign_at (Blk.new W5 9 _) HJ.out)
          have x2 := (show (W5.alloc (.cells #[.string ⟨#[]⟩, .string ⟨#[61]⟩, .string ⟨#[60]⟩, .string ⟨#[62]⟩] 9)).cell? ⟨wr.heap.size, 2, none⟩ = some (.int .i64 (j : Int)) from (T5.alloc _).cell 2)
          have x3 := (show (W5.alloc (.cells #[.string ⟨#[]⟩, .string ⟨#[61]⟩, .string ⟨#[60]⟩, .string ⟨#[62]⟩] 9)).cell? ⟨wr.heap.size, 3, none⟩ = some (.int .i64 v) from (T5.alloc _).cell 3)
          all_goals
            apply region_mid (R := fun hh w' => Below W5.heap.size W5 w')
            case hr =>
              go_region_law (
                go_simp; go_at_call 54; refine (l1Dec_any v _ (by have := HV.out.1; omega) (by have := HV.out.2; omega)).mono ?_; rintro e wd ⟨rfl, hbd⟩; have z2 := (hbd.cell (p := ⟨wr.heap.size, 2, none⟩) (by first | exact hT5 | (simp; omega))).trans (by first | exact y2 | exact x2); (first | (have Z := Blk.below (show Blk _ W5.heap.size 9 #[.string ⟨#[]⟩, .string ⟨#[61]⟩, .string ⟨#[60]⟩, .string ⟨#[62]⟩] from Blk.new W5.drew 9 #[.string ⟨#[]⟩, .string ⟨#[61]⟩, .string ⟨#[60]⟩, .string ⟨#[62]⟩]) hbd (Nat.lt_succ_self _ |> fun h => (World.size_alloc _ _).symm ▸ h); have z3 := sign_at Z HJ.out) | (have hwd : wr.heap.size < wd.heap.size := (Nat.lt_of_lt_of_le hT5 hbd.size); have z7 := cell_alloc_lt z2 hwd (.cells #[.string ⟨#[]⟩, .string ⟨#[61]⟩, .string ⟨#[60]⟩, .string ⟨#[62]⟩] 9); have z8 := sign_at (Blk.new wd 9 #[.string ⟨#[]⟩, .string ⟨#[61]⟩, .string ⟨#[60]⟩, .string ⟨#[62]⟩]) HJ.out)))
              all_goals
                simp [Act.put]
                first
                  | (have hZZ := Z
                     refine ⟨W5.heap.size, ?_, below_then (by go_grown) hbd⟩
                     generalize W5.heap.size = hh
                     rfl)
                  | (have hX : Below W5.heap.size W5 wd := below_then (by go_grown) hbd
                     refine ⟨wd.heap.size, ?_, hX.alloc hX.size _⟩
                     generalize wd.heap.size = hh
                     rfl)
            case hq =>
              rintro hh wd hbw
              go_wp2
              simp
              refine ⟨⟨_, _, ⟨k + 1, ?_, ?_, ?_, ?_, ?_⟩, rfl, rfl, ?_⟩, ?_⟩
              · omega
              · go_num
              · simp only [ba_append]
                apply str_eq
                rw [HG.out, ← List.append_assoc, ← HO.out, HM2.out]
                simp [testText, HM.out]
              · exact R5.below hbw R5.lt
              · exact below_then hb (below_then hb5 hbw)
              · simp only [s32, s45, ba_append]
                simp
              · simp [intOf]
                omega
      · obtain rfl : k = n := by omega
        have e1 : ¬ 9223372036854775807 < o.length + 1 := by omega
        go_wp2
        go_ret
        refine ⟨?_, hb⟩
        simp only [s10, ba_append]
        refine congrArg _ (str_eq ?_)
        rw [HO.out, List.take_of_length_le (by rw [HL.out]; omega)]
        rfl
end Go.Proofs.YtkiacbfpnidjlaaGreatDoor

-- spec's policies: l2Write, PolicyOk.
namespace Go.Proofs.YtkiacbfpnidjlaaGreatDoor
open Go.RowKit
set_option linter.unusedSimpArgs false
set_option linter.unusedVariables false

set_option maxHeartbeats 4000000 in
theorem l2Write_any (p : Pol) (v : Value) (w : World) (hP : PolIs w p v) (hok : polShapeB p = true) :
    Calls Tryz.prog 29 #[v] w fun e w' => e = .returned (.string ⟨(polText p).toArray⟩) ∧ Below w.heap.size w w' := by
  obtain ⟨k8, hels, hrs⟩ := polShapeB_words hok
  clear hok
  obtain ⟨rs, els⟩ := p
  obtain ⟨rv, css, rfl, hS, hR⟩ := hP
  simp only at k8 hels hrs hR ⊢
  obtain ⟨A, n, c, rfl, hSA⟩ := hS
  have htn : rs.length = n := by rw [← hR.1]; exact hSA.len
  have hc := hSA.cap
  have hm := hSA.max
  unfold maxLen at hm
  rw [htn] at k8
  have a1 := verdNm_len els
  have B0 := Blk.new w 33 #[.slice A n c, .int .i64 els]
  have hb0 : Below w.heap.size w (w.alloc (.cells #[.slice A n c, .int .i64 els] 33)) := by go_grown
  have HR := Lib.hid hrs; have HRA := Lib.hid hR; have HL := Lib.hid htn; clear hrs hR htn
  go_enter Tryz.func29, Tryz.ntmps29
  go_wp2
  go_loopw [3, 4] (fun o i wr => ∃ k : Nat, k ≤ n ∧ i = .int .i64 k ∧ o = .string ⟨(rulesText (rs.take k)).toArray⟩ ∧ Blk wr w.heap.size 33 #[.slice A n c, .int .i64 els] ∧ Below w.heap.size w wr) (fun _ i _ => n - (intOf i).toNat)
  case atStart => exact ⟨0, Nat.zero_le _, rfl, by simp [rulesText], B0, hb0⟩
  case round =>
    obtain ⟨k, hk, rfl, ho, hB, hb⟩ := hrel
    have htl := rulesText_len (rs.take k) (fun r hr => HR.out r (List.mem_of_mem_take hr))
    obtain ⟨o, ho2⟩ : ∃ o, o = rulesText (rs.take k) := ⟨_, rfl⟩
    have hol : o.length ≤ 2000 := by rw [ho2]; rw [List.length_take] at htl; have := HL.out; omega
    rw [← ho2] at ho
    subst ho
    have HO := Lib.hid ho2; clear ho2 htl
    have hBl := hB.lt
    have b0 : wr.cell? ⟨w.heap.size, 0, none⟩ = some (.slice A n c) := hB.cell 0
    have b1 : wr.cell? ⟨w.heap.size, 1, none⟩ = some (.int .i64 els) := hB.cell 1
    by_cases hlt : k < n
    · obtain ⟨b, off, r, tv, rfl, hab, hgp, hsl, hcell⟩ := rules_get hSA HRA.out hlt
      obtain ⟨c0, c1, c2, c3⟩ := hcell wr _ hb hab
      have hrok := HR.out r (List.mem_of_getElem? hgp)
      have hrl := ruleText_len hrok
      have e1 : ¬ 9223372036854775807 < o.length + (ruleText r).length := by omega
      have HROK := Lib.hid hrok; have HSL := Lib.hid (hsl.below hb); have HG := Lib.hid (rulesText_take hgp)
      clear hcell hgp hrok hsl
      go_wp2_with fail
      refine (l2Line_any r tv _ HSL.out HROK.out).mono ?_
      rintro e W2 ⟨rfl, hb2⟩
      go_wp2
      refine ⟨⟨k + 1, by omega, by go_num, ?_, hB.below hb2 hBl, below_then hb hb2⟩, by simp [intOf]; omega⟩
      simp only [ba_append]
      apply str_eq
      rw [HG.out, HO.out]
    · obtain rfl : k = n := by omega
      have e1 : ¬ 9223372036854775807 < o.length + 5 := by omega
      have e2 : ¬ 9223372036854775807 < o.length + 5 + (verdNm els).length := by omega
      have e3 : ¬ 9223372036854775807 < o.length + 5 + (verdNm els).length + 1 := by omega
      go_wp2_with fail
      refine (l2Word_any els _ (by omega)).mono ?_
      rintro e W2 ⟨rfl, hb2⟩
      go_wp2
      go_ret
      refine ⟨?_, below_then hb hb2⟩
      simp only [s10, sElse, ba_append]
      refine congrArg _ (str_eq ?_)
      rw [HO.out, List.take_of_length_le (by rw [HL.out]; omega)]
      rfl

theorem polOk_no_rule {rs : List Rl} {els : Int} {k : Nat} {r : Rl} (hg : rs[k]? = some r) (hr : ruleOkB r = false) : polOkB ⟨rs, els⟩ = false := by
  cases h : polOkB ⟨rs, els⟩ with
  | false => rfl
  | true =>
    have := (polShapeB_words (polOkB_shape h).1).2.2 r (List.mem_of_getElem? hg)
    rw [hr] at this
    cases this
theorem ruleOk_no_test {r : Rl} {k : Nat} {t : Ts} (hg : r.tests[k]? = some t) (ht : testOkB t = false) : ruleOkB r = false := by
  cases h : ruleOkB r with
  | false => rfl
  | true =>
    have := (ruleOkB_words h).2.2.2.2 t (List.mem_of_getElem? hg)
    rw [ht] at this
    cases this
theorem take_all_snoc {α : Type} {P : α → Prop} {xs : List α} {k : Nat} {x : α} (h : ∀ y ∈ xs.take k, P y) (hg : xs[k]? = some x) (hx : P x) : ∀ y ∈ xs.take (k + 1), P y := by
  intro y hy
  rw [List.take_add_one, hg] at hy
  simp at hy
  rcases hy with hy | rfl
  · exact h y hy
  · exact hx

set_option maxHeartbeats 8000000 in
theorem PolicyOk_any (p : Pol) (v : Value) (w : World) (hP : PolIs w p v) :
    Calls Tryz.prog 14 #[v] w fun e w' => e = .returned (.bool (polOkB p)) ∧ Below w.heap.size w w' := by
  have hP0 := hP
  obtain ⟨rs, els⟩ := p
  obtain ⟨rv, css, rfl, hS, hR⟩ := hP
  simp only at hR ⊢
  obtain ⟨A, n, c, rfl, hSA⟩ := hS
  have htn : rs.length = n := by rw [← hR.1]; exact hSA.len
  have hc := hSA.cap
  have hm := hSA.max
  unfold maxLen at hm
  have B0 := Blk.new w 33 #[.slice A n c, .int .i64 els]
  have hb0 : Below w.heap.size w (w.alloc (.cells #[.slice A n c, .int .i64 els] 33)) := by go_grown
  have HRA := Lib.hid hR; have HL := Lib.hid htn; have HP := Lib.hid hP0; clear hR htn hP0
  by_cases h8 : n ≤ 8
  · cases hE : inB els 1 4 with
    | false =>
      go_enter Tryz.func14, Tryz.ntmps14
      go_wp2_with (go_at_call 27; refine (l1In_any _ _ _ _).mono ?_; rintro e w' ⟨rfl, rfl⟩)
      go_ret
      refine ⟨ret_bool ?_, by go_grown⟩
      simp [polOkB, polShapeB, hE]
    | true =>
      go_enter Tryz.func14, Tryz.ntmps14
      go_wp2_with (go_at_call 27; refine (l1In_any _ _ _ _).mono ?_; rintro e w' ⟨rfl, rfl⟩)
      go_loopw [3] (fun i wr => ∃ k : Nat, k ≤ n ∧ i = .int .i64 k ∧ (∀ r ∈ rs.take k, ruleOkB r = true) ∧ Blk wr w.heap.size 33 #[.slice A n c, .int .i64 els] ∧ Below w.heap.size w wr) (fun i _ => n - (intOf i).toNat)
      case atStart => exact ⟨0, Nat.zero_le _, rfl, fun r hr => by simp at hr, B0, hb0⟩
      case round =>
        obtain ⟨k, hk, rfl, hall, hB, hb⟩ := hrel
        have hBl := hB.lt
        have hsz := hb.size
        have b0 : wr.cell? ⟨w.heap.size, 0, none⟩ = some (.slice A n c) := hB.cell 0
        have b1 : wr.cell? ⟨w.heap.size, 1, none⟩ = some (.int .i64 els) := hB.cell 1
        have HALL := Lib.hid hall; clear hall
        by_cases hlt : k < n
        · obtain ⟨b, off, r, tv, rfl, hab, hgp, hsl, hcell⟩ := rules_get hSA HRA.out hlt
          obtain ⟨c0, c1, c2, c3⟩ := hcell wr _ hb hab
          have HG := Lib.hid hgp; clear hcell hgp
          obtain ⟨vd, lo, hi, ts⟩ := r
          obtain ⟨A2, m, d2, rfl, hSA2⟩ := hsl
          have hm2 := hSA2.max
          unfold maxLen at hm2
          have hc2 := hSA2.cap
          have htl : ts.length = m := by have := hSA2.len; rwa [tsR_len] at this
          have HTL := Lib.hid htl; clear htl
          simp only at c0 c1 c2 c3
          have hro : ruleOkB ⟨vd, lo, hi, ts⟩ = (inB vd 1 4 && inB lo 0 4294967295 && inB hi lo 4294967295 && decide (m ≤ 4) && ts.all testOkB) := by rw [← HTL.out]; rfl
          have HRO := Lib.hid hro; clear hro
          have hX : Below w.heap.size w (wr.alloc (.cells #[.int .i64 vd, .int .i64 lo, .int .i64 hi, .slice A2 m d2] 61)) := hb.alloc hsz _
          have hB2 := (hB.alloc (.cells #[.int .i64 vd, .int .i64 lo, .int .i64 hi, .slice A2 m d2] 61))
          have TB := Blk.new wr 61 #[.int .i64 vd, .int .i64 lo, .int .i64 hi, .slice A2 m d2]
          have no : ∀ b, ruleOkB ⟨vd, lo, hi, ts⟩ = false → b = false → b = polOkB ⟨rs, els⟩ := fun b h e => by rw [e]; exact (polOk_no_rule HG.out h).symm
          have NO := Lib.hid no; clear no
          rcases Decidable.em (m ≤ 4) with h4 | h4 <;> cases h1 : inB vd 1 4 <;> cases h2 : inB lo 0 4294967295 <;> cases h3 : inB hi lo 4294967295
          case inl.true.true.true =>
            go_wp2_with (go_at_call 27; refine (l1In_any _ _ _ _).mono ?_; rintro e w' ⟨rfl, rfl⟩)
            go_loopw [5] (fun i wr' => ∃ j : Nat, j ≤ m ∧ i = .int .i64 j ∧ (∀ t ∈ ts.take j, testOkB t = true) ∧ Blk wr' w.heap.size 33 #[.slice (some ⟨b, off, none⟩) n c, .int .i64 els] ∧ Blk wr' wr.heap.size 61 #[.int .i64 vd, .int .i64 lo, .int .i64 hi, .slice A2 m d2] ∧ Below w.heap.size w wr') (fun i _ => m - (intOf i).toNat)
            case atStart => exact ⟨0, Nat.zero_le _, rfl, fun t ht => by simp at ht, hB2, TB, hX⟩
            case round =>
              obtain ⟨j, hj, rfl, hallt, hBp, hBr, hbr⟩ := hrel
              have d3 := (show _ = some (Value.slice A2 m d2) from hBr.cell 3)
              have HALT := Lib.hid hallt; clear hallt hX hB2 TB b0 b1
              by_cases hjm : j < m
              · obtain ⟨b2, off2, t, rfl, hab2, hgt, hcell2⟩ := ts_get hSA2 hjm
                obtain ⟨e0, e1, e2, e3⟩ := hcell2 _ _ hbr hab2
                have HGT := Lib.hid hgt; clear hgt hcell2
                cases hto : testOkB t with
                | false =>
                  go_wp2_with fail
                  refine (l2TestOk_any t _).mono ?_; rintro e w2 ⟨rfl, hb2⟩
                  go_wp2
                  go_ret
                  exact ⟨ret_bool (NO.out _ (ruleOk_no_test (r := ⟨vd, lo, hi, ts⟩) HGT.out hto) rfl), below_then hbr hb2⟩
                | true =>
                  go_wp2_with fail
                  refine (l2TestOk_any t _).mono ?_; rintro e w2 ⟨rfl, hb2⟩
                  go_wp2
                  exact ⟨⟨j + 1, by omega, by go_num, take_all_snoc HALT.out HGT.out hto, hBp.below hb2 hBp.lt, hBr.below hb2 hBr.lt, below_then hbr hb2⟩, by simp [intOf]; omega⟩
              · obtain rfl : j = m := by omega
                have hrok : ruleOkB ⟨vd, lo, hi, ts⟩ = true := by
                  have h := HALT.out
                  rw [List.take_of_length_le (by rw [HTL.out]; omega)] at h
                  rw [HRO.out]
                  simp only [h1, h2, h3, Bool.and_eq_true, decide_eq_true_eq, List.all_eq_true, true_and]
                  exact ⟨h4, h⟩
                have HROK := Lib.hid hrok; clear hrok
                go_wp2
                exact ⟨⟨k + 1, by omega, by go_num, take_all_snoc HALL.out HG.out HROK.out, hBp, hbr⟩, by simp [intOf]; omega⟩
          all_goals
            go_wp2_with (go_at_call 27; refine (l1In_any _ _ _ _).mono ?_; rintro e w' ⟨rfl, rfl⟩)
            go_ret
            exact ⟨ret_bool (NO.out _ (by rw [HRO.out]; simp [h1, h2, h3, h4]) rfl), by go_grown⟩
        · obtain rfl : k = n := by omega
          have hsh : polShapeB ⟨rs, els⟩ = true := by
            have h := HALL.out
            rw [List.take_of_length_le (by rw [HL.out]; omega)] at h
            simp only [polShapeB, Bool.and_eq_true, decide_eq_true_eq, List.all_eq_true]
            exact ⟨⟨by rw [HL.out]; omega, hE⟩, h⟩
          have HSH := Lib.hid hsh; clear hsh
          go_wp2_with fail
          refine (l2Write_any ⟨rs, els⟩ _ _ (HP.out.below hb) HSH.out).mono ?_
          rintro e W2 ⟨rfl, hb2⟩
          go_wp2
          go_ret
          refine ⟨ret_bool ?_, below_then hb hb2⟩
          unfold polOkB
          rw [HSH.out]
          simp
          omega
  · go_enter Tryz.func14, Tryz.ntmps14
    go_wp2_with (go_at_call 27; refine (l1In_any _ _ _ _).mono ?_; rintro e w' ⟨rfl, rfl⟩)
    go_ret
    refine ⟨ret_bool ?_, by go_grown⟩
    simp [polOkB, polShapeB, HL.out, h8]
end Go.Proofs.YtkiacbfpnidjlaaGreatDoor
