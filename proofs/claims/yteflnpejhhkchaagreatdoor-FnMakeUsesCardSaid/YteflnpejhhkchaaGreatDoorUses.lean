/- impl.PolicyUses and spec.PolicyUses: both are the fields that a policy looks at, ascending, each once. -/
import Derived.Test.YteflnpejhhkchaaGreatDoorUsesP
import Derived.Test.YteflnpejhhkchaaGreatDoorSortI
import Derived.Test.YteflnpejhhkchaaGreatDoorCodeCalls
import Derived.Test.YteflnpejhhkchaaGreatDoorPolK
import Derived.Test.YteflnpejhhkchaaGreatDoorPolS3
import Derived.Test.YteflnpejhhkchaaGreatDoorDrawPol2
import Derived.Test.YteflnpejhhkchaaGreatDoorSpoilA
import Derived.Deep.CutBlock
import Derived.Outline
namespace Go.Proofs.YteflnpejhhkchaaGreatDoor
open Go.RowKit
set_option linter.unusedSimpArgs false
set_option linter.unusedVariables false

def UsesPost (p : Pol) (w : World) (e : Ending) (w' : World) : Prop := ∃ v, e = .returned v ∧ w'.ownsRow w.heap.size 3 1 v (usesOf p).length (ints (usesOf p)).flatten ∧ Below w.heap.size w w'
theorem own_ints {w : World} {base : Nat} {v : Value} {xs : List Int} (h : w.ownsRow base 3 1 v xs.length (ints xs).flatten) : ∃ A n c, v = .slice A n c ∧ n = xs.length := by
  obtain ⟨A, n, c, rfl, hA⟩ := SlA.of_own h (ints_len _) (ints_rows _)
  exact ⟨A, n, c, rfl, by rw [← hA.len, ints_len]⟩
theorem ints_snoc (xs : List Int) (x : Int) : ints xs ++ [[.int .i64 x]] = ints (xs ++ [x]) := by simp [ints]
theorem take_uses {rs : List Rl} {k : Nat} {x : Rl} (h : rs[k]? = some x) : usesAll (rs.take (k + 1)) = usesAll (rs.take k) ++ ruleU x := by
  rw [List.take_add_one, h]
  exact usesAll_snoc _ _
theorem take_map {ts : List Ts} {j : Nat} {t : Ts} (h : ts[j]? = some t) (L : List Int) : L ++ (ts.take (j + 1)).map (·.field) = (L ++ (ts.take j).map (·.field)) ++ [t.field] := by
  rw [List.take_add_one, h]
  simp

set_option maxRecDepth 100000 in
set_option maxHeartbeats 8000000 in
theorem PolicyUses_ok (p : Pol) (v : Value) (w : World) (hP : PolIs w p v) (hpw : Pow w) (hok : polOkB p = true) :
    Calls Tryz.prog 17 #[v] w (UsesPost p w) := by
  have hro := polOk_rules hok
  have hn8 : p.rules.length ≤ 8 := by
    unfold polOkB polShapeB at hok
    simp only [Bool.and_eq_true, decide_eq_true_eq] at hok
    exact hok.1.1.1
  have ht4 : ∀ r ∈ p.rules, r.tests.length ≤ 4 := fun r hr => by
    have := hro r hr
    unfold ruleOkB at this
    simp only [Bool.and_eq_true, decide_eq_true_eq] at this
    exact this.1.2
  have hul : ∀ k, (usesAll (p.rules.take k)).length ≤ 40 := fun k => by
    have h1 := usesAll_len (rs := p.rules.take k) (fun r hr => hro r (List.mem_of_mem_take hr))
    have h2 : (p.rules.take k).length ≤ 8 := by rw [List.length_take]; omega
    omega
  have HP := Lib.hid hP
  obtain ⟨rv, css, rfl, ⟨A, n, c, rfl, hSA⟩, hR⟩ := hP
  have hpl : p.rules.length = n := by rw [← hR.1, hSA.len]
  have hc := hSA.cap
  have hm := hSA.max
  unfold maxLen at hm
  have hb0 : Below w.heap.size w (w.alloc (.cells #[.slice A n c, .int .i64 p.els] 26)) := by go_grown
  have K0 := Blk.new w 26 #[.slice A n c, .int .i64 p.els]
  have HSA := Lib.hid hSA; have HR := Lib.hid hR; have HPL := Lib.hid hpl; have HPW := Lib.hid hpw; have HOK := Lib.hid hok; have HT4 := Lib.hid ht4; have HUL := Lib.hid hul; have HRO := Lib.hid hro
  have hn8' : n ≤ 8 := by omega
  clear hSA hR hpl hpw hok ht4 hul hro hn8
  go_enter Tryz.func17, Tryz.ntmps17
  go_wp2_with fail
  refine (iPolicyOk_any p _ _ (HP.out.below hb0) (HPW.out.below hb0)).mono ?_; rintro e w2 ⟨rfl, hb1⟩
  rw [HOK.out]
  have hb02 := below_then hb0 hb1
  have K2 := K0.below hb1 K0.lt
  have HB2 := Lib.hid hb02
  have y0 := (show _ = some (Value.slice A n c) from K2.cell 0)
  have hsw : w.heap.size ≤ w2.heap.size := hb02.size
  clear hb0 hb1 hb02 K0 K2
  go_wp2
  clear y0
  go_loopw [3, 14] (fun v i wr => ∃ k : Nat, k ≤ n ∧ i = .int .i64 k ∧ Hid (wr.ownsRow w2.heap.size 3 1 v (usesAll (p.rules.take k)).length (ints (usesAll (p.rules.take k))).flatten) ∧ Hid (Below w2.heap.size w2 wr)) (fun _ i _ => n - (intOf i).toNat)
  case atStart => exact ⟨0, Nat.zero_le _, rfl, Lib.hid (World.ownsRow_nil _ _ _ _), Lib.hid (Below.refl _ _)⟩
  case round =>
    obtain ⟨k, hk, rfl, HO, HBW⟩ := hrel
    have hul := HUL.out k
    obtain ⟨A5, n5, c5, hv5, hn5⟩ := own_ints HO.out
    subst hv5
    subst hn5
    by_cases hlt : k < n
    · have hki : (k : Int) < n := by omega
      obtain ⟨b, off, x, tv, rfl, hab, hx, hst, hcell⟩ := rules_get HSA.out HR.out hlt
      obtain ⟨TA, m, tc, rfl, hTS⟩ := hst
      have htl : x.tests.length = m := by have := hTS.len; rwa [tsR_len] at this
      have hm4 : m ≤ 4 := by rw [← htl]; exact HT4.out x (List.mem_of_getElem? hx)
      have htc := hTS.cap
      have htm := hTS.max
      unfold maxLen at htm
      obtain ⟨q0, q1, q2, q3⟩ := hcell wr w.heap.size (below_then HB2.out HBW.out) hab
      have HX := Lib.hid hx; have HTS := Lib.hid hTS; have HTL := Lib.hid htl; have HLT := Lib.hid hlt
      obtain ⟨W3, hW3⟩ : ∃ W, W = wr.alloc (.cells #[.int .i64 x.verdict, .int .i64 x.low, .int .i64 x.high, .slice TA m tc] 61) := ⟨_, rfl⟩
      have hb3 : Below wr.heap.size wr W3 := by rw [hW3]; go_grown
      have K3 : Hid (Blk W3 wr.heap.size 61 #[.int .i64 x.verdict, .int .i64 x.low, .int .i64 x.high, .slice TA m tc]) := by rw [hW3]; exact Lib.hid (Blk.new _ _ _)
      have HO3 := Lib.hid (own_below HO.out hb3)
      have HB3 := Lib.hid (show Below w2.heap.size w2 W3 from below_then HBW.out hb3)
      have HW3 := Lib.hid hW3
      have hs3 : w2.heap.size ≤ W3.heap.size := HB3.out.size
      clear hW3 hb3 hcell hx hTS htl hlt
      go_upto_region 7 with (fail)
      rw [← HW3.out]
      clear q0 q1 q2 q3
      have e1 := (show _ = some (Value.int .i64 x.low) from K3.out.cell 1); have e2 := (show _ = some (Value.int .i64 x.high) from K3.out.cell 2); have e3 := (show _ = some (Value.slice TA m tc) from K3.out.cell 3)
      by_cases hcr : 0 < x.low ∨ x.high < 4294967295
      case' pos =>
        have HRU := Lib.hid (show rangeU x = [0] by unfold rangeU; rw [if_pos hcr])
        have hcr2 : 0 < x.low ∨ (decide (0 < x.low) = false ∧ x.high < 4294967295) := by
          by_cases h : 0 < x.low
          · exact .inl h
          · exact .inr ⟨by simpa using h, by omega⟩
        clear hcr
        rcases hcr2 with c1 | ⟨c1, c2⟩
        all_goals
          go_upto_region 9 with (at_builtin; go_must (refine wpList_app1g (w0 := W3) rfl (.tmp 26) (.tmp 27) _ rfl w2.heap.size 3 Tryz.underlying37 info_int rfl (by omega) (by omega) _ (usesAll (p.rules.take k)).length (ints (usesAll (p.rules.take k))) rfl HO3.out (r := [.int .i64 0]) rfl (by simp [Value.oneCell']) rfl (by omega) (by exact hs3) ?_); intro v5 w5 hown5 hg5 _; obtain ⟨g5, cap5, rfl, hg5', hg5''⟩ := hown5.form (by omega))
          have K5 := Lib.hid (K3.out.grown hg5 (fun e => own_blk_ne HO3.out K3.out (by decide) e.symm))
          have HB5 := Lib.hid (HB3.out.trans (own_gbK HO3.out hg5 hs3))
          have HO5 : Hid (w5.ownsRow w2.heap.size 3 1 (.slice (some ⟨g5, 0, none⟩) ((usesAll (p.rules.take k)).length + 1) cap5) (usesAll (p.rules.take k) ++ rangeU x).length (ints (usesAll (p.rules.take k) ++ rangeU x)).flatten) := by
            rw [HRU.out, List.length_append, ← ints_snoc]; exact Lib.hid hown5
          obtain ⟨V5, hV5⟩ : ∃ V, V = Value.slice (some ⟨g5, 0, none⟩) ((usesAll (p.rules.take k)).length + 1) cap5 := ⟨_, rfl⟩
          rw [← hV5] at HO5 ⊢
          clear hown5 hg5 hV5 hg5' hg5'' c1 e1 e2 e3
      case' neg =>
        have HRU := Lib.hid (show rangeU x = [] by unfold rangeU; rw [if_neg hcr])
        have c1 : decide (0 < x.low) = false := by simp; omega
        have c2 : decide (x.high < 4294967295) = false := by simp; omega
        clear hcr
        go_upto_region 9 with (fail)
        obtain ⟨w5, hw5⟩ : ∃ W, W = W3 := ⟨_, rfl⟩
        rw [← hw5] at K3 HB3 HO3 ⊢
        have K5 := K3; have HB5 := HB3
        obtain ⟨V5, hV5⟩ : ∃ V, V = Value.slice A5 (usesAll (p.rules.take k)).length c5 := ⟨_, rfl⟩
        have HO5 : Hid (w5.ownsRow w2.heap.size 3 1 V5 (usesAll (p.rules.take k) ++ rangeU x).length (ints (usesAll (p.rules.take k) ++ rangeU x)).flatten) := by
          rw [HRU.out, List.append_nil, hV5]; exact HO3
        rw [← hV5]
        clear hw5 hV5 c1 c2 e1 e2 e3
      all_goals
        obtain ⟨L, hL⟩ : ∃ L, L = usesAll (p.rules.take k) ++ rangeU x := ⟨_, rfl⟩
        have hll : L.length ≤ 41 := by
          rw [hL, List.length_append]
          have : (rangeU x).length ≤ 1 := by unfold rangeU; split <;> simp
          omega
        rw [← hL] at HO5
        have HLE := Lib.hid hL
        have e3 := (show _ = some (Value.slice TA m tc) from K5.out.cell 3)
        clear hL HRU K3 K5 HO3 HB3 HW3 hs3 HO hul
        go_wp2_with fail
        go_loopw [3, 32] (fun v i wq => ∃ j : Nat, j ≤ m ∧ i = .int .i64 j ∧ Hid (wq.ownsRow w2.heap.size 3 1 v (L ++ (x.tests.take j).map (·.field)).length (ints (L ++ (x.tests.take j).map (·.field))).flatten) ∧ Hid (Below w2.heap.size w2 wq)) (fun _ i _ => m - (intOf i).toNat)
        case atStart => exact ⟨0, Nat.zero_le _, rfl, by rw [List.take_zero, List.map_nil, List.append_nil]; exact HO5, HB5⟩
        case round =>
          clear HO5 HB5 e3
          obtain ⟨j, hj, rfl, HO6, HB6⟩ := hrel
          have hjl : (L ++ (x.tests.take j).map (·.field)).length ≤ 45 := by
            rw [List.length_append, List.length_map, List.length_take]; omega
          obtain ⟨A6, n6, c6, hv6, hn6⟩ := own_ints HO6.out
          subst hv6
          subst hn6
          by_cases hjm : j < m
          · have hji : (j : Int) < m := by omega
            obtain ⟨b2, off2, t, rfl, hab2, ht, hcell2⟩ := ts_get HTS.out hjm
            obtain ⟨q0, q1, q2, q3⟩ := hcell2 wr w.heap.size (below_then HB2.out HB6.out) hab2
            have HT := Lib.hid ht
            clear hcell2 ht
            obtain ⟨W7, hW7⟩ : ∃ W, W = wr.alloc (.cells #[.int .i64 t.field, .int .i64 t.mask, .int .i64 t.op, .int .i64 t.value] 64) := ⟨_, rfl⟩
            have hb7 : Below wr.heap.size wr W7 := by rw [hW7]; go_grown
            have K7 : Hid (Blk W7 wr.heap.size 64 #[.int .i64 t.field, .int .i64 t.mask, .int .i64 t.op, .int .i64 t.value]) := by rw [hW7]; exact Lib.hid (Blk.new _ _ _)
            have HO7 := Lib.hid (own_below HO6.out hb7)
            have HB7 := Lib.hid (show Below w2.heap.size w2 W7 from below_then HB6.out hb7)
            have HW7 := Lib.hid hW7
            have hs7 : w2.heap.size ≤ W7.heap.size := HB7.out.size
            clear hW7 hb7
            go_upto_region 12 with (fail)
            rw [← HW7.out]
            have f0 := (show _ = some (Value.int .i64 t.field) from K7.out.cell 0)
            have HT2 := Lib.hid (take_map HT.out L)
            have hx1 : (L ++ (x.tests.take j).map (·.field)).length + 1 ≤ 46 := by omega
            clear q0 q1 q2 q3
            obtain ⟨M, hM⟩ : ∃ M, M = L ++ (x.tests.take j).map (·.field) := ⟨_, rfl⟩
            rw [← hM] at HO7 HO6 HT2 hx1 hjl ⊢
            clear hM
            go_wp2_with (at_builtin; go_must (refine wpList_app1g (w0 := W7) rfl (.tmp 36) (.tmp 39) _ rfl w2.heap.size 3 Tryz.underlying37 info_int rfl (by omega) (by omega) _ M.length (ints M) rfl HO7.out (r := [.int .i64 t.field]) rfl (by simp [Value.oneCell']) rfl (by omega) (by exact hs7) ?_); intro v8 w8 hown8 hg8 _; obtain ⟨g8, cap8, rfl, hg8', hg8''⟩ := hown8.form (by omega))
            have HB8 := Lib.hid (HB7.out.trans (own_gbK HO7.out hg8 hs7))
            refine ⟨⟨j + 1, by omega, by go_num, ?_, HB8⟩, by simp [intOf]; try omega⟩
            rw [HT2.out, ← ints_snoc, List.length_append]
            exact Lib.hid hown8
          · obtain rfl : j = m := by omega
            have he : L ++ (x.tests.take j).map (·.field) = usesAll (p.rules.take (k + 1)) := by
              rw [take_uses HX.out, HLE.out, show x.tests.take j = x.tests from List.take_of_length_le (by rw [HTL.out]; omega)]
              simp [ruleU]
            have HE := Lib.hid he
            clear he
            rw [HE.out] at HO6 ⊢
            go_wp2
            exact ⟨⟨k + 1, HLT.out, by go_num, HO6, HB6⟩, by simp [intOf]; try omega⟩
    · obtain rfl : k = n := by omega
      have hf : p.rules.take k = p.rules := List.take_of_length_le (by rw [HPL.out]; omega)
      have hv : Lib.compact ((usesAll p.rules).mergeSort fun x y => decide (x ≤ y)) = usesOf p := by
        unfold usesOf
        rw [if_pos HOK.out, uses_one HRO.out]
      rw [hf] at HO hul ⊢
      have HV := Lib.hid hv
      clear hf hv
      obtain ⟨M, hM⟩ : ∃ M, M = usesAll p.rules := ⟨_, rfl⟩
      rw [← hM] at HO HV hul ⊢
      clear hM HOK HPW HP HSA HR HPL HT4 HUL HRO
      go_wp2_with fail
      refine (Sort_own w2.heap.size _ _ _ _ HO.out rfl (by omega)).mono ?_; rintro e w3 ⟨rfl, own3, hb3⟩
      have hml : (M.mergeSort fun x y => decide (x ≤ y)).length = M.length := by simp
      go_wp2_with fail
      refine (Compact_own w2.heap.size _ _ _ _ own3 hml (by omega)).mono ?_; rintro e w4 ⟨v4, rfl, own4, hb4⟩
      rw [HV.out] at own4
      obtain ⟨A6, n6, c6, rfl, -⟩ := own_ints own4
      have HO4 := Lib.hid own4; clear own4 own3
      go_wp2
      go_ret
      exact ⟨_, rfl, own_base HO4.out hsw, HB2.out.trans ((HBW.out.trans (hb3.trans hb4)).mono hsw)⟩
theorem PolicyUses_no (p : Pol) (v : Value) (w : World) (hP : PolIs w p v) (hpw : Pow w) (hok : ¬ polOkB p = true) :
    Calls Tryz.prog 17 #[v] w (UsesPost p w) := by
  have hb : polOkB p = false := by simpa using hok
  have he : usesOf p = [] := by unfold usesOf; rw [hb]; rfl
  have HP := Lib.hid hP
  obtain ⟨rv, css, rfl, ⟨A, n, c, rfl, hSA⟩, hR⟩ := hP
  have hb0 : Below w.heap.size w (w.alloc (.cells #[.slice A n c, .int .i64 p.els] 26)) := by go_grown
  have HE := Lib.hid he; have HPW := Lib.hid hpw
  clear hSA hR he hpw hok
  go_enter Tryz.func17, Tryz.ntmps17
  go_wp2_with fail
  refine (iPolicyOk_any p _ _ (HP.out.below hb0) (HPW.out.below hb0)).mono ?_; rintro e w2 ⟨rfl, hb1⟩
  rw [hb]
  go_wp2
  go_ret
  exact ⟨_, rfl, by rw [HE.out]; exact World.ownsRow_nil _ _ _ _, below_then hb0 hb1⟩

theorem iPolicyUses_any (p : Pol) (v : Value) (w : World) (hP : PolIs w p v) (hpw : Pow w) : Calls Tryz.prog 17 #[v] w (UsesPost p w) := by
  by_cases h : polOkB p = true
  · exact PolicyUses_ok p v w hP hpw h
  · exact PolicyUses_no p v w hP hpw h

theorem fu_yes {rs : List Rl} {k : Nat} {z : Int} (hz : z = k) (h : z ∈ usesAll rs) : fuTo rs (k + 1) = fuTo rs k ++ [z] := by
  subst hz; simp [fuTo, h]
theorem fu_no {rs : List Rl} {k : Nat} {z : Int} (hz : z = k) (h : z ∉ usesAll rs) : fuTo rs (k + 1) = fuTo rs k := by
  subst hz; simp [fuTo, h]
theorem mem_rangeU {r : Rl} {z : Int} : z ∈ rangeU r ↔ z = 0 ∧ (0 < r.low ∨ r.high < 4294967295) := by
  unfold rangeU
  split
  · rename_i h; simp [h]
  · rename_i h; simp only [List.not_mem_nil, false_iff]; exact fun h2 => h h2.2

set_option maxRecDepth 100000 in
set_option maxHeartbeats 8000000 in
theorem sPolicyUses_ok (p : Pol) (v : Value) (w : World) (hP : PolIs w p v) (hok : polOkB p = true) :
    Calls Tryz.prog 20 #[v] w (UsesPost p w) := by
  have HP := Lib.hid hP
  obtain ⟨rv, css, rfl, ⟨A, n, c, rfl, hSA⟩, hR⟩ := hP
  have hpl : p.rules.length = n := by rw [← hR.1, hSA.len]
  have hc := hSA.cap
  have hm := hSA.max
  unfold maxLen at hm
  have hb0 : Below w.heap.size w ((w.alloc (.cells #[.slice A n c, .int .i64 p.els] 26)).alloc (.cells #[] 3)) := by go_grown
  obtain ⟨W1, hW1⟩ : ∃ W, W = w.alloc (.cells #[.slice A n c, .int .i64 p.els] 26) := ⟨_, rfl⟩
  have hsz1 : W1.heap.size = w.heap.size + 1 := by rw [hW1]; exact Array.size_push ..
  have K1 : Blk W1 w.heap.size 26 #[.slice A n c, .int .i64 p.els] := by rw [hW1]; exact Blk.new _ _ _
  have hbw1 : Below w.heap.size w W1 := by rw [hW1]; go_grown
  have hE : (W1.alloc (.cells #[] 3)).ownsRow W1.heap.size 3 1 (.slice (some ⟨w.heap.size + 1, 0, none⟩) 0 0) 0 [] := by
    rw [← hsz1]; exact World.ownsRow_made W1 #[] 0 (Nat.le_refl _) (by unfold maxLen; omega) rfl
  have hb12 : Below W1.heap.size W1 (W1.alloc (.cells #[] 3)) := by go_grown
  have HW1 := Lib.hid hW1; have HSA := Lib.hid hSA; have HR := Lib.hid hR; have HPL := Lib.hid hpl; have HB1 := Lib.hid hbw1; have HE := Lib.hid hE; have HB12 := Lib.hid hb12; have HOK := Lib.hid hok; have HK1 := Lib.hid K1
  clear hW1 hSA hR hpl hbw1 hE hb12 K1
  go_enter Tryz.func20, Tryz.ntmps20
  go_wp2_with fail
  refine (PolicyOk_any p _ _ (HP.out.below hb0)).mono ?_; rintro e w2 ⟨rfl, hb1⟩
  rw [hok]
  clear hok hb0
  rw [← HW1.out] at hb1
  have HO2 := Lib.hid (own_below HE.out hb1)
  have HB2 := Lib.hid (below_then HB12.out hb1)
  clear hb1
  go_wp2
  go_loopw [3, 4] (fun v i wr => ∃ f : Nat, f ≤ 5 ∧ i = .int .i64 f ∧ Hid (wr.ownsRow W1.heap.size 3 1 v (fuTo p.rules f).length (ints (fuTo p.rules f)).flatten) ∧ Hid (Below W1.heap.size W1 wr)) (fun _ i _ => 6 - (intOf i).toNat)
  case atStart => exact ⟨0, by omega, rfl, HO2, HB2⟩
  case round =>
    clear HO2 HB2 HE HB12
    obtain ⟨f, hf, rfl, HO, HB⟩ := hrel
    have hul := fuTo_len p.rules f
    have hsz := HB.out.size
    obtain ⟨A5, n5, c5, hv5, hn5⟩ := own_ints HO.out
    subst hv5
    subst hn5
    by_cases hlt : f < 5
    · have hfi4 : (f : Int) ≤ 4 := by omega
      have hsuc : (Value.int .i64 ((f : Int) + 1)) = .int .i64 ((f + 1 : Nat) : Int) := by simp
      go_wp2
      go_loopw [5, 6] (fun v i wr => ∃ k : Nat, k ≤ n ∧ i = .int .i64 k ∧ v = .bool (decide ((f : Int) ∈ usesAll (p.rules.take k))) ∧ Hid (wr.ownsRow W1.heap.size 3 1 (.slice A5 (fuTo p.rules f).length c5) (fuTo p.rules f).length (ints (fuTo p.rules f)).flatten) ∧ Hid (Below W1.heap.size W1 wr)) (fun _ i _ => n - (intOf i).toNat)
      case atStart => exact ⟨0, by omega, rfl, by simp [usesAll], HO, HB⟩
      case round =>
        clear HO HB hsz
        obtain ⟨k, hk, rfl, rfl, HO, HB⟩ := hrel
        have hsz := HB.out.size
        have K2 := HK1.out.below HB.out HK1.out.lt
        have p0 := (show _ = some (Value.slice A n c) from K2.cell 0)
        by_cases hkn : k < n
        · have hki : (k : Int) < n := by omega
          have hw1 : w.heap.size ≤ W1.heap.size := by omega
          obtain ⟨b, off, x, tv, rfl, hab, hx, hst, hcell⟩ := rules_get HSA.out HR.out hkn
          obtain ⟨TA, m, tc, rfl, hTS⟩ := hst
          have htl : x.tests.length = m := by have := hTS.len; rwa [tsR_len] at this
          have htc := hTS.cap
          have htm := hTS.max
          unfold maxLen at htm
          obtain ⟨q0, q1, q2, q3⟩ := hcell wr w.heap.size (HB1.out.trans (HB.out.mono hw1)) hab
          have HX := Lib.hid hx; have HTS := Lib.hid hTS; have HTL := Lib.hid htl; have HLT := Lib.hid hkn
          obtain ⟨W3, hW3⟩ : ∃ W, W = wr.alloc (.cells #[.int .i64 x.verdict, .int .i64 x.low, .int .i64 x.high, .slice TA m tc] 61) := ⟨_, rfl⟩
          have hb3 : Below wr.heap.size wr W3 := by rw [hW3]; go_grown
          have K3 : Hid (Blk W3 wr.heap.size 61 #[.int .i64 x.verdict, .int .i64 x.low, .int .i64 x.high, .slice TA m tc]) := by rw [hW3]; exact Lib.hid (Blk.new _ _ _)
          have HO3 := Lib.hid (own_below HO.out hb3)
          have HB3 := Lib.hid (show Below W1.heap.size W1 W3 from below_then HB.out hb3)
          have HBW := Lib.hid (show Below w.heap.size w W3 from HB1.out.trans (HB3.out.mono hw1))
          have HW3 := Lib.hid hW3
          clear hW3 hb3 hcell hx hTS htl K2 HO HB
          go_upto_region 12 with (fail)
          rw [← HW3.out]
          clear q0 q1 q2 q3 p0
          have e1 := (show _ = some (Value.int .i64 x.low) from K3.out.cell 1); have e2 := (show _ = some (Value.int .i64 x.high) from K3.out.cell 2)
          obtain ⟨L, hL⟩ : ∃ L, L = usesAll (p.rules.take k) ++ rangeU x := ⟨_, rfl⟩
          have hmem : (f : Int) ∈ L ↔ ((f : Int) ∈ usesAll (p.rules.take k) ∨ (f : Int) = 0 ∧ (0 < x.low ∨ x.high < 4294967295)) := by
            rw [hL, List.mem_append, mem_rangeU]
          have HLE := Lib.hid hL
          have HM := Lib.hid hmem
          clear hL hmem
          have hways : ((f : Int) ∈ usesAll (p.rules.take k)) ∨ (((f : Int) ∉ usesAll (p.rules.take k)) ∧ (f : Int) = 0 ∧ 0 < x.low) ∨ (((f : Int) ∉ usesAll (p.rules.take k)) ∧ (f : Int) = 0 ∧ ¬ 0 < x.low ∧ x.high < 4294967295) ∨ (((f : Int) ∉ usesAll (p.rules.take k)) ∧ (f : Int) = 0 ∧ ¬ 0 < x.low ∧ ¬ x.high < 4294967295) ∨ (((f : Int) ∉ usesAll (p.rules.take k)) ∧ ¬ (f : Int) = 0) := by
            by_cases a1 : (f : Int) ∈ usesAll (p.rules.take k)
            · exact .inl a1
            · by_cases a2 : (f : Int) = 0
              · by_cases a3 : 0 < x.low
                · exact .inr (.inl ⟨a1, a2, a3⟩)
                · by_cases a4 : x.high < 4294967295
                  · exact .inr (.inr (.inl ⟨a1, a2, a3, a4⟩))
                  · exact .inr (.inr (.inr (.inl ⟨a1, a2, a3, a4⟩)))
              · exact .inr (.inr (.inr (.inr ⟨a1, a2⟩)))
          rcases hways with hu | ⟨hu, hz, c1⟩ | ⟨hu, hz, c1, c2⟩ | ⟨hu, hz, c1, c2⟩ | ⟨hu, hz⟩
          case' inl =>
            have HD : Hid (decide ((f : Int) ∈ L) = true) := Lib.hid (by simp only [decide_eq_true_eq]; exact HM.out.2 (.inl hu))
            rw [show decide ((f : Int) ∈ usesAll (p.rules.take k)) = true from by simpa only [decide_eq_true_eq] using hu]
            clear hu
            go_upto_region 13 with (fail)
          case' inr.inl =>
            rw [show decide ((f : Int) ∈ usesAll (p.rules.take k)) = false from by simpa only [decide_eq_false_iff_not] using hu]
            have hz' : ((f : Int) == 0) = true := by simp [hz]
            have HD : Hid (decide ((f : Int) ∈ L) = true) := Lib.hid (by simp only [decide_eq_true_eq]; exact HM.out.2 (.inr ⟨hz, .inl c1⟩))
            clear hu hz
            go_upto_region 13 with (fail)
            clear hz' c1
          case' inr.inr.inl =>
            rw [show decide ((f : Int) ∈ usesAll (p.rules.take k)) = false from by simpa only [decide_eq_false_iff_not] using hu]
            have hz' : ((f : Int) == 0) = true := by simp [hz]
            have c1' : decide (0 < x.low) = false := by simpa using c1
            have HD : Hid (decide ((f : Int) ∈ L) = true) := Lib.hid (by simp only [decide_eq_true_eq]; exact HM.out.2 (.inr ⟨hz, .inr c2⟩))
            clear hu hz c1
            go_upto_region 13 with (fail)
            clear hz' c1' c2
          case' inr.inr.inr.inl =>
            rw [show decide ((f : Int) ∈ usesAll (p.rules.take k)) = false from by simpa only [decide_eq_false_iff_not] using hu]
            have hz' : ((f : Int) == 0) = true := by simp [hz]
            have c1' : decide (0 < x.low) = false := by simpa using c1
            have c2' : decide (x.high < 4294967295) = false := by simpa using c2
            have HD : Hid (decide ((f : Int) ∈ L) = false) := Lib.hid (by simp only [decide_eq_false_iff_not]; intro h; rcases HM.out.1 h with h | ⟨_, h | h⟩; exact hu h; exact c1 h; exact c2 h)
            clear hu hz c1 c2
            go_upto_region 13 with (fail)
            clear hz' c1' c2'
          case' inr.inr.inr.inr =>
            rw [show decide ((f : Int) ∈ usesAll (p.rules.take k)) = false from by simpa only [decide_eq_false_iff_not] using hu]
            have hz' : ((f : Int) == 0) = false := by simpa using hz
            have HD : Hid (decide ((f : Int) ∈ L) = false) := Lib.hid (by simp only [decide_eq_false_iff_not]; intro h; rcases HM.out.1 h with h | ⟨h, _⟩; exact hu h; exact hz h)
            clear hu hz
            go_upto_region 13 with (fail)
            clear hz'
          all_goals
            clear e1 e2 HM
            have e3 := (show _ = some (Value.slice TA m tc) from K3.out.cell 3)
            go_wp2_with fail
            go_loopw [5, 8] (fun v i wq => ∃ j : Nat, j ≤ m ∧ i = .int .i64 j ∧ v = .bool (decide ((f : Int) ∈ L ++ (x.tests.take j).map (·.field))) ∧ wq = W3) (fun _ i _ => m - (intOf i).toNat)
            case atStart => exact ⟨0, by omega, rfl, by rw [List.take_zero, List.map_nil, List.append_nil, HD.out], rfl⟩
            case round =>
              clear HD
              obtain ⟨j, hj, rfl, rfl, hq⟩ := hrel
              subst hq
              by_cases hjm : j < m
              · have hji : (j : Int) < m := by omega
                obtain ⟨b2, off2, t, rfl, hab2, ht, hcell2⟩ := ts_get HTS.out hjm
                obtain ⟨r0, r1, r2, r3⟩ := hcell2 _ w.heap.size HBW.out hab2
                have HT2 := Lib.hid (take_map ht L)
                clear hcell2 ht r1 r2 r3
                by_cases hu : (f : Int) ∈ L ++ (x.tests.take j).map (·.field)
                · rw [show decide ((f : Int) ∈ L ++ (x.tests.take j).map (·.field)) = true from by simpa only [decide_eq_true_eq] using hu]
                  have HD : Hid (decide ((f : Int) ∈ L ++ (x.tests.take (j + 1)).map (·.field)) = true) := Lib.hid (by simp only [decide_eq_true_eq]; rw [HT2.out]; exact List.mem_append_left _ hu)
                  clear hu
                  go_wp2
                  exact ⟨⟨j + 1, by omega, by go_num, by rw [HD.out], by first | rfl | trivial⟩, by simp [intOf]; try omega⟩
                · rw [show decide ((f : Int) ∈ L ++ (x.tests.take j).map (·.field)) = false from by simpa only [decide_eq_false_iff_not] using hu]
                  by_cases hf2 : t.field = (f : Int)
                  · have hf3 : (t.field == (f : Int)) = true := by simp [hf2]
                    have HD : Hid (decide ((f : Int) ∈ L ++ (x.tests.take (j + 1)).map (·.field)) = true) := Lib.hid (by simp only [decide_eq_true_eq]; rw [HT2.out, hf2]; exact List.mem_append_right _ (by simp))
                    clear hu hf2
                    go_wp2
                    exact ⟨⟨j + 1, by omega, by go_num, by rw [HD.out], by first | rfl | trivial⟩, by simp [intOf]; try omega⟩
                  · have hf3 : (t.field == (f : Int)) = false := by simp [hf2]
                    have HD : Hid (decide ((f : Int) ∈ L ++ (x.tests.take (j + 1)).map (·.field)) = false) := Lib.hid (by simp only [decide_eq_false_iff_not]; rw [HT2.out]; intro h; rcases List.mem_append.1 h with h | h; exact hu h; exact hf2 (List.mem_singleton.1 h).symm)
                    clear hu hf2
                    go_wp2
                    exact ⟨⟨j + 1, by omega, by go_num, by rw [HD.out], by first | rfl | trivial⟩, by simp [intOf]; try omega⟩
              · obtain rfl : j = m := by omega
                have he : L ++ (x.tests.take j).map (·.field) = usesAll (p.rules.take (k + 1)) := by
                  rw [take_uses HX.out, HLE.out, show x.tests.take j = x.tests from List.take_of_length_le (by rw [HTL.out]; omega)]
                  simp [ruleU]
                have HE := Lib.hid he
                clear he
                rw [HE.out]
                go_wp2
                exact ⟨⟨k + 1, HLT.out, by go_num, rfl, HO3, HB3⟩, by simp [intOf]; try omega⟩
        · obtain rfl : k = n := by omega
          have hfl : p.rules.take k = p.rules := List.take_of_length_le (by rw [HPL.out]; omega)
          rw [hfl]
          by_cases hin : (f : Int) ∈ usesAll p.rules
          · have HY := Lib.hid (fu_yes (rs := p.rules) rfl hin)
            rw [show decide ((f : Int) ∈ usesAll p.rules) = true from by simpa using hin]
            clear hin hfl
            go_wp2_with (at_builtin; go_must (refine wpList_app1g (w0 := _) rfl (.tmp 64) (.tmp 66) _ rfl W1.heap.size 3 Tryz.underlying37 info_int rfl (by omega) (by omega) _ (fuTo p.rules f).length (ints (fuTo p.rules f)) rfl HO.out (r := [.int .i64 (f : Int)]) rfl (by simp [Value.oneCell']) rfl (by omega) (by exact hsz) ?_); intro v8 w8 hown8 hg8 _; obtain ⟨g8, cap8, rfl, hg8', hg8''⟩ := hown8.form (by omega))
            have HB8 := Lib.hid (HB.out.trans (own_gbK HO.out hg8 hsz))
            refine ⟨⟨f + 1, by omega, by go_num, ?_, HB8⟩, by simp [intOf]; try omega⟩
            rw [HY.out, ← ints_snoc, List.length_append]
            exact Lib.hid hown8
          · have HY := Lib.hid (fu_no (rs := p.rules) rfl hin)
            rw [show decide ((f : Int) ∈ usesAll p.rules) = false from by simpa using hin]
            clear hin hfl
            go_wp2
            exact ⟨⟨f + 1, by omega, by go_num, by rw [HY.out]; exact HO, HB⟩, by simp [intOf]; try omega⟩
    · obtain rfl : f = 5 := by omega
      have hv : fuTo p.rules 5 = usesOf p := by
        unfold usesOf
        rw [if_pos HOK.out]
      have HV := Lib.hid hv
      clear hv
      go_wp2
      go_ret
      refine ⟨_, rfl, ?_, HB1.out.trans (HB.out.mono (by omega))⟩
      rw [← HV.out]
      exact own_base HO.out (by omega)

theorem sPolicyUses_no (p : Pol) (v : Value) (w : World) (hP : PolIs w p v) (hok : ¬ polOkB p = true) :
    Calls Tryz.prog 20 #[v] w (UsesPost p w) := by
  have hb : polOkB p = false := by simpa using hok
  have he : usesOf p = [] := by unfold usesOf; rw [hb]; rfl
  have HP := Lib.hid hP
  obtain ⟨rv, css, rfl, ⟨A, n, c, rfl, hSA⟩, hR⟩ := hP
  have hb0 : Below w.heap.size w ((w.alloc (.cells #[.slice A n c, .int .i64 p.els] 26)).alloc (.cells #[] 3)) := by go_grown
  obtain ⟨W1, hW1⟩ : ∃ W, W = w.alloc (.cells #[.slice A n c, .int .i64 p.els] 26) := ⟨_, rfl⟩
  have hsz1 : W1.heap.size = w.heap.size + 1 := by rw [hW1]; exact Array.size_push ..
  have hbw1 : Below w.heap.size w W1 := by rw [hW1]; go_grown
  have hE : (W1.alloc (.cells #[] 3)).ownsRow W1.heap.size 3 1 (.slice (some ⟨w.heap.size + 1, 0, none⟩) 0 0) 0 [] := by
    rw [← hsz1]; exact World.ownsRow_made W1 #[] 0 (Nat.le_refl _) (by unfold maxLen; omega) rfl
  have HW1 := Lib.hid hW1; have HE := Lib.hid hE; have HC := Lib.hid he; have HS := Lib.hid hsz1
  clear hW1 hSA hR hbw1 hE he hok
  go_enter Tryz.func20, Tryz.ntmps20
  go_wp2_with fail
  refine (PolicyOk_any p _ _ (HP.out.below hb0)).mono ?_; rintro e w2 ⟨rfl, hb1⟩
  rw [hb]
  go_wp2
  go_ret
  refine ⟨_, rfl, ?_, below_then hb0 hb1⟩
  rw [HC.out]
  rw [← HW1.out] at hb1
  exact own_base (own_below HE.out hb1) (by rw [HS.out]; omega)

theorem sPolicyUses_any (p : Pol) (v : Value) (w : World) (hP : PolIs w p v) : Calls Tryz.prog 20 #[v] w (UsesPost p w) := by
  by_cases h : polOkB p = true
  · exact sPolicyUses_ok p v w hP h
  · exact sPolicyUses_no p v w hP h
end Go.Proofs.YteflnpejhhkchaaGreatDoor
