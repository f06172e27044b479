/- spec's policies: l2Line, l2Write, PolicyOk. -/
import Derived.Test.YtgdelnpielfhkaaGreatDoorPolS
import Derived.Deep.QuietTactic
import Derived.Deep.RegionLaw
namespace Go.Proofs.YtgdelnpielfhkaaGreatDoor
open Go.RowKit
set_option linter.unusedSimpArgs false
set_option linter.unusedVariables false

theorem s0 : (⟨#[]⟩ : ByteArray) = ⟨([] : List UInt8).toArray⟩ := rfl
theorem s61 : (⟨#[61]⟩ : ByteArray) = ⟨([61] : List UInt8).toArray⟩ := rfl
theorem s60 : (⟨#[60]⟩ : ByteArray) = ⟨([60] : List UInt8).toArray⟩ := rfl
theorem s62 : (⟨#[62]⟩ : ByteArray) = ⟨([62] : List UInt8).toArray⟩ := rfl

theorem cell_alloc_lt {w : World} {a : Addr} {v : Value} (h : w.cell? a = some v) (hl : a.block < w.heap.size) (o : Obj) : (w.alloc o).cell? a = some v :=
  ((show Below w.heap.size w (w.alloc o) by go_grown).cell hl).trans h

set_option maxHeartbeats 16000000 in
theorem l2Line_any (r : Rl) (tv : Value) (w : World) (hT : Sl w 4 tv (tsR r.tests)) (hok : ruleOkB r = true) :
    Calls Tryz.prog 46 #[.agg #[.int .i64 r.verdict, .int .i64 r.low, .int .i64 r.high, tv]] w fun e w' => e = .returned (.string ⟨(ruleText r).toArray⟩) ∧ Below w.heap.size w w' := by
  have hw := ruleOkB_words hok
  obtain ⟨vd, lo, hi, ts⟩ := r
  simp only at hT hw ⊢
  obtain ⟨⟨v0, v1⟩, ⟨l0, l1⟩, h1, n4, hts⟩ := hw
  obtain ⟨A, n, c, rfl, hA⟩ := hT
  have hn : ts.length = n := by have := hA.len; rwa [tsR_len] at this
  have hc := hA.cap
  have hm := hA.max
  unfold maxLen at hm
  rw [hn] at n4
  have a1 := verdNm_len vd
  have a2 := itoa10 (n := lo) (by omega)
  have a3 := itoa10 (n := hi) (by omega)
  have hhd := headText_len hok
  have HL := Lib.hid hn; have HT := Lib.hid hts; clear hn hts hok
  have d1 : ¬ 9223372036854775807 < (verdNm vd).length + 1 := by omega
  have d2 : ¬ 9223372036854775807 < (verdNm vd).length + 1 + (Lib.itoa lo).length := by omega
  have d3 : ¬ 9223372036854775807 < (verdNm vd).length + 1 + (Lib.itoa lo).length + 1 := by omega
  have d4 : ¬ 9223372036854775807 < (verdNm vd).length + 1 + (Lib.itoa lo).length + 1 + (Lib.itoa hi).length := by omega
  go_enter Tryz.func46, Tryz.ntmps46
  go_wp2
  have B0 := Blk.new w 44 #[.int .i64 vd, .int .i64 lo, .int .i64 hi, .slice A n c]
  have hb0 : Below w.heap.size w (w.alloc (.cells #[.int .i64 vd, .int .i64 lo, .int .i64 hi, .slice A n c] 44)) := by go_grown
  have hs0 : (w.alloc (.cells #[.int .i64 vd, .int .i64 lo, .int .i64 hi, .slice A n c] 44)).heap.size = w.heap.size + 1 := by simp
  obtain ⟨W, hW⟩ : ∃ W, W = w.alloc (.cells #[.int .i64 vd, .int .i64 lo, .int .i64 hi, .slice A n c] 44) := ⟨_, rfl⟩
  rw [← hW] at B0 hb0 hs0
  rw [← hW]
  clear hW
  have q0 : W.cell? ⟨w.heap.size, 0, none⟩ = some (.int .i64 vd) := B0.cell 0
  have q1 : W.cell? ⟨w.heap.size, 1, none⟩ = some (.int .i64 lo) := B0.cell 1
  have r0 := cell_regrown q0; have r1 := cell_regrown q1
  refine wp_region_quiet_below (by kernel_rfl) (by kernel_rfl) ?_
  repeat (quiet_step (first | exact Calls.regrown_of (l2Word_any _ _ (by omega)) | exact Calls.regrown_of (l1Dec_any _ _ (by omega) (by omega))))
  refine wpQuiet_nil ?_
  intro W2 hw'
  have hb2 : Below W.heap.size W W2 := by obtain ⟨⟨dq, osq⟩, hw''⟩ := hw'; subst hw''; exact below_regrown _ _ _
  clear hw' r0 r1 q0 q1
  have B2 := B0.below hb2 B0.lt
  have p1 : W2.cell? ⟨w.heap.size, 1, none⟩ = some (.int .i64 lo) := B2.cell 1
  have p2 : W2.cell? ⟨w.heap.size, 2, none⟩ = some (.int .i64 hi) := B2.cell 2
  have hb02 : Below w.heap.size w W2 := below_step hb0 (by omega) hb2
  clear hb2 hb0 B0 d1 d2
  rcases Decidable.em (hi = lo) with hh | hh
  case' inl =>
    have hd : (hi != lo) = false := by simp [hh]
    have HH := Lib.hid (show headText ⟨vd, lo, hi, ts⟩ = verdNm vd ++ [32] ++ Lib.itoa lo by simp [headText, highText, hh])
    have B3 := B2
    have hb3 := hb02
    clear hh d3 d4 B2 hb02
    go_wp2
  case' inr =>
    have hd : (hi != lo) = true := by simp [hh]
    have HH := Lib.hid (show headText ⟨vd, lo, hi, ts⟩ = verdNm vd ++ [32] ++ Lib.itoa lo ++ [45] ++ Lib.itoa hi by simp [headText, highText, hh])
    clear hh
    go_wp2_with fail
    refine (l1Dec_any hi _ (by omega) (by omega)).mono ?_
    rintro e W3 ⟨rfl, hb23⟩
    have B3 := B2.below hb23 B2.lt
    have hb3 : Below w.heap.size w W3 := below_step hb02 hb02.size hb23
    clear B2 hb02 hb23 p1 p2 d3 d4
    go_wp2
  all_goals
    go_loopw [3, 4] (fun o i wr => ∃ k : Nat, k ≤ n ∧ i = .int .i64 k ∧ o = .string ⟨(headText ⟨vd, lo, hi, ts⟩ ++ testsText (ts.take k)).toArray⟩ ∧ Blk wr w.heap.size 44 #[.int .i64 vd, .int .i64 lo, .int .i64 hi, .slice A n c] ∧ Below w.heap.size w wr) (fun _ i _ => n - (intOf i).toNat)
    case atStart =>
      refine ⟨0, by omega, rfl, ?_, B3, hb3⟩
      simp only [s32, s45, ba_append]
      apply str_eq
      rw [HH.out]
      simp [testsText]
    case round =>
      obtain ⟨k, hk, rfl, ho, BR, hb⟩ := hrel
      have htl := testsText_len (ts.take k) (fun t ht => HT.out t (List.mem_of_mem_take ht))
      obtain ⟨o, ho2⟩ : ∃ o, o = headText ⟨vd, lo, hi, ts⟩ ++ testsText (ts.take k) := ⟨_, rfl⟩
      have hol : o.length ≤ 200 := by rw [ho2]; simp only [List.length_append]; have := List.length_take_le k ts; rw [List.length_take] at htl; have := HL.out; omega
      rw [← ho2] at ho
      subst ho
      have HO := Lib.hid ho2; clear ho2 htl
      have hRl := BR.lt
      have b3 : wr.cell? ⟨w.heap.size, 3, none⟩ = some (.slice A n c) := BR.cell 3
      by_cases hlt : k < n
      · obtain ⟨b, off, t, rfl, hab, hgp, hcell⟩ := ts_get hA hlt
        obtain ⟨c0, c1, c2, c3⟩ := hcell wr _ hb hab
        have htok := HT.out t (List.mem_of_getElem? hgp)
        obtain ⟨t1, t2, t3, t4⟩ := testOkB_words htok
        have HG := Lib.hid (testsText_take hgp); clear hgp hcell htok
        obtain ⟨f, m, op, v⟩ := t
        simp only at c0 c1 c2 c3 t1 t2 t3 t4
        have x1 := itoa10 (n := f) (by omega)
        have x2 := itoa10 (n := m) (by omega)
        have x3 := itoa10 (n := v) (by omega)
        have x4 := signNm_len op
        have e1 : ¬ 9223372036854775807 < o.length + 2 := by omega
        have e2 : ¬ 9223372036854775807 < o.length + 2 + (Lib.itoa f).length := by omega
        have TB := Blk.new wr 47 #[.int .i64 f, .int .i64 m, .int .i64 op, .int .i64 v]
        go_wp2_with fail
        refine (l1Dec_any f _ (by omega) (by omega)).mono ?_
        rintro e W5 ⟨rfl, hb4⟩
        have T4 := TB.below hb4 TB.lt
        have hb4' : Below wr.heap.size wr W5 := below_step (by go_grown) (by go_size) hb4
        have R4 := BR.below hb4' hRl
        have g1 : W5.cell? ⟨wr.heap.size, 1, none⟩ = some (.int .i64 m) := T4.cell 1
        clear hb4 TB
        rcases Decidable.em (m = 4294967295) with hmm | hmm
        case' inl =>
          have hd : (m != 4294967295) = false := by simp [hmm]
          have HM := Lib.hid (show maskText m = [] by simp [maskText, hmm])
          obtain ⟨M, hM⟩ : ∃ M : List UInt8, M = o ++ [32, 97] ++ Lib.itoa f := ⟨_, rfl⟩
          have T5 := T4
          have R5 := R4
          have hb5 := hb4'
          have hMl : M.length ≤ 250 := by rw [hM]; simp; omega
          have HM2 := Lib.hid hM
          clear hmm T4 R4 hb4' hM
          go_wp2
        case' inr =>
          have hd : (m != 4294967295) = true := by simp [hmm]
          have HM := Lib.hid (show maskText m = [38] ++ Lib.itoa m by simp [maskText, hmm])
          obtain ⟨M, hM⟩ : ∃ M : List UInt8, M = o ++ [32, 97] ++ Lib.itoa f ++ [38] ++ Lib.itoa m := ⟨_, rfl⟩
          have hMl : M.length ≤ 250 := by rw [hM]; simp; omega
          have HM2 := Lib.hid hM
          have e3 : ¬ 9223372036854775807 < o.length + 2 + (Lib.itoa f).length + 1 := by omega
          have e4 : ¬ 9223372036854775807 < o.length + 2 + (Lib.itoa f).length + 1 + (Lib.itoa m).length := by omega
          clear hmm hM
          go_wp2_with fail
          refine (l1Dec_any m _ (by omega) (by omega)).mono ?_
          rintro e W5 ⟨rfl, hb5'⟩
          have T5 := T4.below hb5' T4.lt
          have R5 := R4.below hb5' R4.lt
          have hb5 : Below wr.heap.size wr W5 := below_step hb4' hb4'.size hb5'
          clear T4 R4 hb4' hb5' g1 e3 e4
          go_wp2
        all_goals
          simp only [s3297, s38, ba_append]
          rw [← HM2.out]
          have y2 : W5.cell? ⟨wr.heap.size, 2, none⟩ = some (.int .i64 op) := T5.cell 2
          have y3 : W5.cell? ⟨wr.heap.size, 3, none⟩ = some (.int .i64 v) := T5.cell 3
          have hT5 := T5.lt
          obtain ⟨j, rfl⟩ : ∃ j : Nat, op = j := ⟨op.toNat, by omega⟩
          have hj4 : (j : Int) < 4 := by omega
          have e5 : ¬ 9223372036854775807 < M.length + (signNm (j : Int)).length := by omega
          have e6 : ¬ 9223372036854775807 < M.length + (signNm (j : Int)).length + (Lib.itoa v).length := by omega
          have HJ := Lib.hid (show j ≤ 3 by omega); have HV := Lib.hid t3
          have s1 := (show (W5.alloc (.cells #[.string ⟨#[]⟩, .string ⟨#[61]⟩, .string ⟨#[60]⟩, .string ⟨#[62]⟩] 9)).cell? ⟨W5.heap.size, j, none⟩ = _ from sign_at (Blk.new W5 9 _) HJ.out)
          have x2 := (show (W5.alloc (.cells #[.string ⟨#[]⟩, .string ⟨#[61]⟩, .string ⟨#[60]⟩, .string ⟨#[62]⟩] 9)).cell? ⟨wr.heap.size, 2, none⟩ = some (.int .i64 (j : Int)) from (T5.alloc _).cell 2)
          have x3 := (show (W5.alloc (.cells #[.string ⟨#[]⟩, .string ⟨#[61]⟩, .string ⟨#[60]⟩, .string ⟨#[62]⟩] 9)).cell? ⟨wr.heap.size, 3, none⟩ = some (.int .i64 v) from (T5.alloc _).cell 3)
          all_goals
            apply region_mid (R := fun hh w' => Below W5.heap.size W5 w')
            case hr =>
              go_region_law (
                go_simp; go_at_call 79; refine (l1Dec_any v _ (by have := HV.out.1; omega) (by have := HV.out.2; omega)).mono ?_; rintro e wd ⟨rfl, hbd⟩; have z2 := (hbd.cell (p := ⟨wr.heap.size, 2, none⟩) (by first | exact hT5 | (simp; omega))).trans (by first | exact y2 | exact x2); (first | (have Z := Blk.below (show Blk _ W5.heap.size 9 #[.string ⟨#[]⟩, .string ⟨#[61]⟩, .string ⟨#[60]⟩, .string ⟨#[62]⟩] from Blk.new W5.drew 9 #[.string ⟨#[]⟩, .string ⟨#[61]⟩, .string ⟨#[60]⟩, .string ⟨#[62]⟩]) hbd (Nat.lt_succ_self _ |> fun h => (World.size_alloc _ _).symm ▸ h); have z3 := sign_at Z HJ.out) | (have hwd : wr.heap.size < wd.heap.size := (Nat.lt_of_lt_of_le hT5 hbd.size); have z7 := cell_alloc_lt z2 hwd (.cells #[.string ⟨#[]⟩, .string ⟨#[61]⟩, .string ⟨#[60]⟩, .string ⟨#[62]⟩] 9); have z8 := sign_at (Blk.new wd 9 #[.string ⟨#[]⟩, .string ⟨#[61]⟩, .string ⟨#[60]⟩, .string ⟨#[62]⟩]) HJ.out)))
              all_goals
                simp [Act.put]
                first
                  | (have hZZ := Z
                     refine ⟨W5.heap.size, ?_, below_then (by go_grown) hbd⟩
                     generalize W5.heap.size = hh
                     rfl)
                  | (have hX : Below W5.heap.size W5 wd := below_then (by go_grown) hbd
                     refine ⟨wd.heap.size, ?_, hX.alloc hX.size _⟩
                     generalize wd.heap.size = hh
                     rfl)
            case hq =>
              rintro hh wd hbw
              go_wp2
              simp
              refine ⟨⟨_, _, ⟨k + 1, ?_, ?_, ?_, ?_, ?_⟩, rfl, rfl, ?_⟩, ?_⟩
              · omega
              · go_num
              · simp only [ba_append]
                apply str_eq
                rw [HG.out, ← List.append_assoc, ← HO.out, HM2.out]
                simp [testText, HM.out]
              · exact R5.below hbw R5.lt
              · exact below_then hb (below_then hb5 hbw)
              · simp only [s32, s45, ba_append]
                simp
              · simp [intOf]
                omega
      · obtain rfl : k = n := by omega
        have e1 : ¬ 9223372036854775807 < o.length + 1 := by omega
        go_wp2
        go_ret
        refine ⟨?_, hb⟩
        simp only [s10, ba_append]
        refine congrArg _ (str_eq ?_)
        rw [HO.out, List.take_of_length_le (by rw [HL.out]; omega)]
        rfl
end Go.Proofs.YtgdelnpielfhkaaGreatDoor
