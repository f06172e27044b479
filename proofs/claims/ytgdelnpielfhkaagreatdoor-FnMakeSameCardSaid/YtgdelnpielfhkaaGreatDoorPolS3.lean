/- spec's policies: l2Write, PolicyOk. -/
import Derived.Test.YtgdelnpielfhkaaGreatDoorPolS2
namespace Go.Proofs.YtgdelnpielfhkaaGreatDoor
open Go.RowKit
set_option linter.unusedSimpArgs false
set_option linter.unusedVariables false

set_option maxHeartbeats 4000000 in
theorem l2Write_any (p : Pol) (v : Value) (w : World) (hP : PolIs w p v) (hok : polShapeB p = true) :
    Calls Tryz.prog 18 #[v] w fun e w' => e = .returned (.string ⟨(polText p).toArray⟩) ∧ Below w.heap.size w w' := by
  obtain ⟨k8, hels, hrs⟩ := polShapeB_words hok
  clear hok
  obtain ⟨rs, els⟩ := p
  obtain ⟨rv, css, rfl, hS, hR⟩ := hP
  simp only at k8 hels hrs hR ⊢
  obtain ⟨A, n, c, rfl, hSA⟩ := hS
  have htn : rs.length = n := by rw [← hR.1]; exact hSA.len
  have hc := hSA.cap
  have hm := hSA.max
  unfold maxLen at hm
  rw [htn] at k8
  have a1 := verdNm_len els
  have B0 := Blk.new w 25 #[.slice A n c, .int .i64 els]
  have hb0 : Below w.heap.size w (w.alloc (.cells #[.slice A n c, .int .i64 els] 25)) := by go_grown
  have HR := Lib.hid hrs; have HRA := Lib.hid hR; have HL := Lib.hid htn; clear hrs hR htn
  go_enter Tryz.func18, Tryz.ntmps18
  go_wp2
  go_loopw [3, 4] (fun o i wr => ∃ k : Nat, k ≤ n ∧ i = .int .i64 k ∧ o = .string ⟨(rulesText (rs.take k)).toArray⟩ ∧ Blk wr w.heap.size 25 #[.slice A n c, .int .i64 els] ∧ Below w.heap.size w wr) (fun _ i _ => n - (intOf i).toNat)
  case atStart => exact ⟨0, Nat.zero_le _, rfl, by simp [rulesText], B0, hb0⟩
  case round =>
    obtain ⟨k, hk, rfl, ho, hB, hb⟩ := hrel
    have htl := rulesText_len (rs.take k) (fun r hr => HR.out r (List.mem_of_mem_take hr))
    obtain ⟨o, ho2⟩ : ∃ o, o = rulesText (rs.take k) := ⟨_, rfl⟩
    have hol : o.length ≤ 2000 := by rw [ho2]; rw [List.length_take] at htl; have := HL.out; omega
    rw [← ho2] at ho
    subst ho
    have HO := Lib.hid ho2; clear ho2 htl
    have hBl := hB.lt
    have b0 : wr.cell? ⟨w.heap.size, 0, none⟩ = some (.slice A n c) := hB.cell 0
    have b1 : wr.cell? ⟨w.heap.size, 1, none⟩ = some (.int .i64 els) := hB.cell 1
    by_cases hlt : k < n
    · obtain ⟨b, off, r, tv, rfl, hab, hgp, hsl, hcell⟩ := rules_get hSA HRA.out hlt
      obtain ⟨c0, c1, c2, c3⟩ := hcell wr _ hb hab
      have hrok := HR.out r (List.mem_of_getElem? hgp)
      have hrl := ruleText_len hrok
      have e1 : ¬ 9223372036854775807 < o.length + (ruleText r).length := by omega
      have HROK := Lib.hid hrok; have HSL := Lib.hid (hsl.below hb); have HG := Lib.hid (rulesText_take hgp)
      clear hcell hgp hrok hsl
      go_wp2_with fail
      refine (l2Line_any r tv _ HSL.out HROK.out).mono ?_
      rintro e W2 ⟨rfl, hb2⟩
      go_wp2
      refine ⟨⟨k + 1, by omega, by go_num, ?_, hB.below hb2 hBl, below_then hb hb2⟩, by simp [intOf]; omega⟩
      simp only [ba_append]
      apply str_eq
      rw [HG.out, HO.out]
    · obtain rfl : k = n := by omega
      have e1 : ¬ 9223372036854775807 < o.length + 5 := by omega
      have e2 : ¬ 9223372036854775807 < o.length + 5 + (verdNm els).length := by omega
      have e3 : ¬ 9223372036854775807 < o.length + 5 + (verdNm els).length + 1 := by omega
      go_wp2_with fail
      refine (l2Word_any els _ (by omega)).mono ?_
      rintro e W2 ⟨rfl, hb2⟩
      go_wp2
      go_ret
      refine ⟨?_, below_then hb hb2⟩
      simp only [s10, sElse, ba_append]
      refine congrArg _ (str_eq ?_)
      rw [HO.out, List.take_of_length_le (by rw [HL.out]; omega)]
      rfl

theorem polOk_no_rule {rs : List Rl} {els : Int} {k : Nat} {r : Rl} (hg : rs[k]? = some r) (hr : ruleOkB r = false) : polOkB ⟨rs, els⟩ = false := by
  cases h : polOkB ⟨rs, els⟩ with
  | false => rfl
  | true =>
    have := (polShapeB_words (polOkB_shape h).1).2.2 r (List.mem_of_getElem? hg)
    rw [hr] at this
    cases this
theorem ruleOk_no_test {r : Rl} {k : Nat} {t : Ts} (hg : r.tests[k]? = some t) (ht : testOkB t = false) : ruleOkB r = false := by
  cases h : ruleOkB r with
  | false => rfl
  | true =>
    have := (ruleOkB_words h).2.2.2.2 t (List.mem_of_getElem? hg)
    rw [ht] at this
    cases this
theorem take_all_snoc {α : Type} {P : α → Prop} {xs : List α} {k : Nat} {x : α} (h : ∀ y ∈ xs.take k, P y) (hg : xs[k]? = some x) (hx : P x) : ∀ y ∈ xs.take (k + 1), P y := by
  intro y hy
  rw [List.take_add_one, hg] at hy
  simp at hy
  rcases hy with hy | rfl
  · exact h y hy
  · exact hx

set_option maxHeartbeats 8000000 in
theorem PolicyOk_any (p : Pol) (v : Value) (w : World) (hP : PolIs w p v) :
    Calls Tryz.prog 8 #[v] w fun e w' => e = .returned (.bool (polOkB p)) ∧ Below w.heap.size w w' := by
  have hP0 := hP
  obtain ⟨rs, els⟩ := p
  obtain ⟨rv, css, rfl, hS, hR⟩ := hP
  simp only at hR ⊢
  obtain ⟨A, n, c, rfl, hSA⟩ := hS
  have htn : rs.length = n := by rw [← hR.1]; exact hSA.len
  have hc := hSA.cap
  have hm := hSA.max
  unfold maxLen at hm
  have B0 := Blk.new w 25 #[.slice A n c, .int .i64 els]
  have hb0 : Below w.heap.size w (w.alloc (.cells #[.slice A n c, .int .i64 els] 25)) := by go_grown
  have HRA := Lib.hid hR; have HL := Lib.hid htn; have HP := Lib.hid hP0; clear hR htn hP0
  by_cases h8 : n ≤ 8
  · cases hE : inB els 1 4 with
    | false =>
      go_enter Tryz.func8, Tryz.ntmps8
      go_wp2_with (go_at_call 16; refine (l1In_any _ _ _ _).mono ?_; rintro e w' ⟨rfl, rfl⟩)
      go_ret
      refine ⟨ret_bool ?_, by go_grown⟩
      simp [polOkB, polShapeB, hE]
    | true =>
      go_enter Tryz.func8, Tryz.ntmps8
      go_wp2_with (go_at_call 16; refine (l1In_any _ _ _ _).mono ?_; rintro e w' ⟨rfl, rfl⟩)
      go_loopw [3] (fun i wr => ∃ k : Nat, k ≤ n ∧ i = .int .i64 k ∧ (∀ r ∈ rs.take k, ruleOkB r = true) ∧ Blk wr w.heap.size 25 #[.slice A n c, .int .i64 els] ∧ Below w.heap.size w wr) (fun i _ => n - (intOf i).toNat)
      case atStart => exact ⟨0, Nat.zero_le _, rfl, fun r hr => by simp at hr, B0, hb0⟩
      case round =>
        obtain ⟨k, hk, rfl, hall, hB, hb⟩ := hrel
        have hBl := hB.lt
        have hsz := hb.size
        have b0 : wr.cell? ⟨w.heap.size, 0, none⟩ = some (.slice A n c) := hB.cell 0
        have b1 : wr.cell? ⟨w.heap.size, 1, none⟩ = some (.int .i64 els) := hB.cell 1
        have HALL := Lib.hid hall; clear hall
        by_cases hlt : k < n
        · obtain ⟨b, off, r, tv, rfl, hab, hgp, hsl, hcell⟩ := rules_get hSA HRA.out hlt
          obtain ⟨c0, c1, c2, c3⟩ := hcell wr _ hb hab
          have HG := Lib.hid hgp; clear hcell hgp
          obtain ⟨vd, lo, hi, ts⟩ := r
          obtain ⟨A2, m, d2, rfl, hSA2⟩ := hsl
          have hm2 := hSA2.max
          unfold maxLen at hm2
          have hc2 := hSA2.cap
          have htl : ts.length = m := by have := hSA2.len; rwa [tsR_len] at this
          have HTL := Lib.hid htl; clear htl
          simp only at c0 c1 c2 c3
          have hro : ruleOkB ⟨vd, lo, hi, ts⟩ = (inB vd 1 4 && inB lo 0 4294967295 && inB hi lo 4294967295 && decide (m ≤ 4) && ts.all testOkB) := by rw [← HTL.out]; rfl
          have HRO := Lib.hid hro; clear hro
          have hX : Below w.heap.size w (wr.alloc (.cells #[.int .i64 vd, .int .i64 lo, .int .i64 hi, .slice A2 m d2] 44)) := hb.alloc hsz _
          have hB2 := (hB.alloc (.cells #[.int .i64 vd, .int .i64 lo, .int .i64 hi, .slice A2 m d2] 44))
          have TB := Blk.new wr 44 #[.int .i64 vd, .int .i64 lo, .int .i64 hi, .slice A2 m d2]
          have no : ∀ b, ruleOkB ⟨vd, lo, hi, ts⟩ = false → b = false → b = polOkB ⟨rs, els⟩ := fun b h e => by rw [e]; exact (polOk_no_rule HG.out h).symm
          have NO := Lib.hid no; clear no
          rcases Decidable.em (m ≤ 4) with h4 | h4 <;> cases h1 : inB vd 1 4 <;> cases h2 : inB lo 0 4294967295 <;> cases h3 : inB hi lo 4294967295
          case inl.true.true.true =>
            go_wp2_with (go_at_call 16; refine (l1In_any _ _ _ _).mono ?_; rintro e w' ⟨rfl, rfl⟩)
            go_loopw [5] (fun i wr' => ∃ j : Nat, j ≤ m ∧ i = .int .i64 j ∧ (∀ t ∈ ts.take j, testOkB t = true) ∧ Blk wr' w.heap.size 25 #[.slice (some ⟨b, off, none⟩) n c, .int .i64 els] ∧ Blk wr' wr.heap.size 44 #[.int .i64 vd, .int .i64 lo, .int .i64 hi, .slice A2 m d2] ∧ Below w.heap.size w wr') (fun i _ => m - (intOf i).toNat)
            case atStart => exact ⟨0, Nat.zero_le _, rfl, fun t ht => by simp at ht, hB2, TB, hX⟩
            case round =>
              obtain ⟨j, hj, rfl, hallt, hBp, hBr, hbr⟩ := hrel
              have d3 := (show _ = some (Value.slice A2 m d2) from hBr.cell 3)
              have HALT := Lib.hid hallt; clear hallt hX hB2 TB b0 b1
              by_cases hjm : j < m
              · obtain ⟨b2, off2, t, rfl, hab2, hgt, hcell2⟩ := ts_get hSA2 hjm
                obtain ⟨e0, e1, e2, e3⟩ := hcell2 _ _ hbr hab2
                have HGT := Lib.hid hgt; clear hgt hcell2
                cases hto : testOkB t with
                | false =>
                  go_wp2_with fail
                  refine (l2TestOk_any t _).mono ?_; rintro e w2 ⟨rfl, hb2⟩
                  go_wp2
                  go_ret
                  exact ⟨ret_bool (NO.out _ (ruleOk_no_test (r := ⟨vd, lo, hi, ts⟩) HGT.out hto) rfl), below_then hbr hb2⟩
                | true =>
                  go_wp2_with fail
                  refine (l2TestOk_any t _).mono ?_; rintro e w2 ⟨rfl, hb2⟩
                  go_wp2
                  exact ⟨⟨j + 1, by omega, by go_num, take_all_snoc HALT.out HGT.out hto, hBp.below hb2 hBp.lt, hBr.below hb2 hBr.lt, below_then hbr hb2⟩, by simp [intOf]; omega⟩
              · obtain rfl : j = m := by omega
                have hrok : ruleOkB ⟨vd, lo, hi, ts⟩ = true := by
                  have h := HALT.out
                  rw [List.take_of_length_le (by rw [HTL.out]; omega)] at h
                  rw [HRO.out]
                  simp only [h1, h2, h3, Bool.and_eq_true, decide_eq_true_eq, List.all_eq_true, true_and]
                  exact ⟨h4, h⟩
                have HROK := Lib.hid hrok; clear hrok
                go_wp2
                exact ⟨⟨k + 1, by omega, by go_num, take_all_snoc HALL.out HG.out HROK.out, hBp, hbr⟩, by simp [intOf]; omega⟩
          all_goals
            go_wp2_with (go_at_call 16; refine (l1In_any _ _ _ _).mono ?_; rintro e w' ⟨rfl, rfl⟩)
            go_ret
            exact ⟨ret_bool (NO.out _ (by rw [HRO.out]; simp [h1, h2, h3, h4]) rfl), by go_grown⟩
        · obtain rfl : k = n := by omega
          have hsh : polShapeB ⟨rs, els⟩ = true := by
            have h := HALL.out
            rw [List.take_of_length_le (by rw [HL.out]; omega)] at h
            simp only [polShapeB, Bool.and_eq_true, decide_eq_true_eq, List.all_eq_true]
            exact ⟨⟨by rw [HL.out]; omega, hE⟩, h⟩
          have HSH := Lib.hid hsh; clear hsh
          go_wp2_with fail
          refine (l2Write_any ⟨rs, els⟩ _ _ (HP.out.below hb) HSH.out).mono ?_
          rintro e W2 ⟨rfl, hb2⟩
          go_wp2
          go_ret
          refine ⟨ret_bool ?_, below_then hb hb2⟩
          unfold polOkB
          rw [HSH.out]
          simp
          omega
  · go_enter Tryz.func8, Tryz.ntmps8
    go_wp2_with (go_at_call 16; refine (l1In_any _ _ _ _).mono ?_; rintro e w' ⟨rfl, rfl⟩)
    go_ret
    refine ⟨ret_bool ?_, by go_grown⟩
    simp [polOkB, polShapeB, HL.out, h8]
end Go.Proofs.YtgdelnpielfhkaaGreatDoor
