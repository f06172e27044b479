/- spec's near words of a policy: l13Words. -/
import Derived.Test.YtkiacbfpnidjlaaGreatDoorSpecW
import Derived.Test.YtkiacbfpnidjlaaGreatDoorNearWI
import Derived.Deep.RegionHeld3
import Derived.IntWalk
namespace Go.Proofs.YtkiacbfpnidjlaaGreatDoor
open Go.RowKit
set_option linter.unusedSimpArgs false
set_option linter.unusedVariables false

theorem WordsOf.pos2 {zs l : List Int} (h : WordsOf zs l) (h0 : 0 ∈ zs) : 0 < l.length := List.length_pos_of_mem ((h.2 0).2 ⟨h0, by simp [wordB]⟩)

set_option maxRecDepth 100000 in
set_option maxHeartbeats 8000000 in
theorem l13Words_any (p : Pol) (f : Int) (v : Value) (w : World) (hP : PolIs w p v) (hn8 : p.rules.length ≤ 8) (ht4 : ∀ r ∈ p.rules, r.tests.length ≤ 4) (hbd : ∀ r ∈ p.rules, (0 ≤ r.low ∧ r.low ≤ 4294967295) ∧ (0 ≤ r.high ∧ r.high ≤ 4294967295) ∧ ∀ t ∈ r.tests, (1 ≤ t.field) ∧ 0 ≤ t.value ∧ t.value ≤ 4294967295) :
    Calls Tryz.prog 30 #[v, .int .i64 f] w (WordsPost p.rules f w) := by
  have hul : ∀ k, (0 :: nearAll (p.rules.take k) f).length ≤ 97 := fun k => by
    have h1 := nearAll_len f (p.rules.take k) (fun r hr => ht4 r (List.mem_of_mem_take hr))
    have h2 : (p.rules.take k).length ≤ 8 := by rw [List.length_take]; omega
    simp only [List.length_cons]
    omega
  have HP := Lib.hid hP
  obtain ⟨rv, css, rfl, ⟨A, n, c, rfl, hSA⟩, hR⟩ := hP
  have hpl : p.rules.length = n := by rw [← hR.1, hSA.len]
  have hc := hSA.cap
  have hm := hSA.max
  unfold maxLen at hm
  obtain ⟨W1, hW1⟩ : ∃ W, W = w.alloc (.cells #[.slice A n c, .int .i64 p.els] 33) := ⟨_, rfl⟩
  have hb1 : Below w.heap.size w W1 := by rw [hW1]; go_grown
  have K1 : Blk W1 w.heap.size 33 #[.slice A n c, .int .i64 p.els] := by rw [hW1]; exact Blk.new w _ _
  have hz1 : W1.heap.size = w.heap.size + 1 := by rw [hW1]; simp
  obtain ⟨W2, hW2⟩ : ∃ W, W = W1.alloc (.cells #[.int .i64 0] 3) := ⟨_, rfl⟩
  have hb2 : Below W1.heap.size W1 W2 := by rw [hW2]; go_grown
  have hO2 : W2.ownsRow W1.heap.size 3 1 (.slice (some ⟨w.heap.size + 1, 0, none⟩) 1 1) ([0] : List Int).length (ints [0]).flatten := by
    rw [hW2, ← hz1]
    exact World.ownsRow_lit (base := W1.heap.size) (e := 3) (size := 1) W1 #[.int .i64 0] 1 (Nat.le_refl _) (by unfold maxLen; omega) rfl
  have hs12 : W1.heap.size ≤ W2.heap.size := hb2.size
  have HW := Lib.hid hW1; have HW2 := Lib.hid hW2; have HB := Lib.hid (below_then hb1 hb2); have HO := Lib.hid hO2; have HZ := Lib.hid hz1; have HK2 := Lib.hid (K1.below hb2 K1.lt); have HB2 := Lib.hid hb2
  have HSA := Lib.hid hSA; have HR := Lib.hid hR; have HPL := Lib.hid hpl; have HT4 := Lib.hid ht4; have HUL := Lib.hid hul; have HBD := Lib.hid hbd; have HB1 := Lib.hid hb1
  have hn8' : n ≤ 8 := by omega
  clear hW1 hW2 hb1 hb2 hO2 K1 hz1 hSA hR hpl ht4 hul hbd hn8
  go_enter Tryz.func30, Tryz.ntmps30
  go_upto_region 2 with (fail)
  rw [← HW.out, ← HW2.out]
  go_wp2
  go_loopw [5, 6] (fun v i wr => ∃ (k : Nat) (xs : List Int), k ≤ n ∧ i = .int .i64 k ∧ Hid (wr.ownsRow W1.heap.size 3 1 v xs.length (ints xs).flatten) ∧ Hid (WordsOf (0 :: nearAll (p.rules.take k) f) xs) ∧ Hid (Below W1.heap.size W1 wr) ∧ Hid (Blk wr w.heap.size 33 #[.slice A n c, .int .i64 p.els])) (fun _ i _ => n - (intOf i).toNat)
  case atStart => exact ⟨0, [0], Nat.zero_le _, rfl, HO, Lib.hid WordsOf.start, HB2, HK2⟩
  case round =>
    obtain ⟨k, xs, hk, rfl, HO, HWO, HBW, HK⟩ := hrel
    have hul := HUL.out k
    obtain ⟨L, hL⟩ : ∃ L, L = 0 :: nearAll (p.rules.take k) f := ⟨_, rfl⟩
    rw [← hL] at HWO hul
    have HLE := Lib.hid hL
    have hx0 : 0 < xs.length := WordsOf.pos (zs := nearAll (p.rules.take k) f) (by rw [← hL]; exact HWO.out)
    clear hL
    obtain ⟨A5, c5, rfl⟩ := own_slN HO.out
    have hsz : W1.heap.size ≤ wr.heap.size := HBW.out.size
    have y0 : wr.cell? ⟨w.heap.size, 0, none⟩ = some (.slice A n c) := HK.out.cell 0
    by_cases hlt : k < n
    · have hki : (k : Int) < n := by omega
      obtain ⟨b, off, x, tv, rfl, hab, hx, hst, hcell⟩ := rules_get HSA.out HR.out hlt
      obtain ⟨TA, m, tc, rfl, hTS⟩ := hst
      have htl : x.tests.length = m := by have := hTS.len; rwa [tsR_len] at this
      have hm4 : m ≤ 4 := by rw [← htl]; exact HT4.out x (List.mem_of_getElem? hx)
      have htc := hTS.cap
      have htm := hTS.max
      unfold maxLen at htm
      obtain ⟨⟨l0, l1⟩, ⟨g0, g1⟩, hvb⟩ := HBD.out x (List.mem_of_getElem? hx)
      obtain ⟨q0, q1, q2, q3⟩ := hcell wr w.heap.size (HB1.out.trans (HBW.out.mono (by rw [HZ.out]; omega))) hab
      have HX := Lib.hid hx; have HTS := Lib.hid hTS; have HTL := Lib.hid htl; have HLT := Lib.hid hlt; have HVB := Lib.hid hvb
      obtain ⟨W3, hW3⟩ : ∃ W, W = wr.alloc (.cells #[.int .i64 x.verdict, .int .i64 x.low, .int .i64 x.high, .slice TA m tc] 61) := ⟨_, rfl⟩
      have hb3 : Below wr.heap.size wr W3 := by rw [hW3]; go_grown
      have K3 : Hid (Blk W3 wr.heap.size 61 #[.int .i64 x.verdict, .int .i64 x.low, .int .i64 x.high, .slice TA m tc]) := by rw [hW3]; exact Lib.hid (Blk.new _ _ _)
      have HO3 := Lib.hid (own_below HO.out hb3)
      have HK3 := Lib.hid (HK.out.below hb3 HK.out.lt)
      have HB3 := Lib.hid (show Below W1.heap.size W1 W3 from HBW.out.trans (hb3.mono hsz))
      have HW3 := Lib.hid hW3
      have hs3 : W1.heap.size ≤ W3.heap.size := HB3.out.size
      have hwl : w.heap.size < W1.heap.size := by rw [HZ.out]; omega
      obtain ⟨rb, hrb⟩ : ∃ b, b = wr.heap.size := ⟨_, rfl⟩
      rw [← hrb] at K3
      clear hW3 hb3 hcell hx hTS htl hlt hvb
      go_upto_region 6 with (fail)
      rw [← HW3.out, ← hrb]
      clear q0 q1 q2 q3 y0 hrb
      have H0L : Hid ((0 : Int) ∈ L) := Lib.hid (by rw [HLE.out]; simp)
      by_cases hf : f = 0
      case' pos =>
        have hf0 : (f == 0) = true := by simp [hf]
        have HF := Lib.hid hf; clear hf
        have e0_1 := (show _ = some (Value.int .i64 x.low) from K3.out.cell 1); have e0_2 := (show _ = some (Value.int .i64 x.high) from K3.out.cell 2)
        have hlt_0 : rb < W3.heap.size := K3.out.lt
        have hw1 : IntKind.i64.wrap (x.low - 1) = x.low - 1 := IntWalk.i64_in _ (by omega)
        have hw2 : IntKind.i64.wrap (x.high + 1) = x.high + 1 := IntWalk.i64_in _ (by omega)
        have T1 := Lib.hid True.intro; have T2 := Lib.hid True.intro; have T3 := Lib.hid True.intro; have T4 := Lib.hid True.intro
        have HWO0 := HWO.out
        go_wp2_with fail
        go_region_held3 (fun w' => w'.cell? ⟨rb, 1, none⟩ = some (.int .i64 x.low) ∧ w'.cell? ⟨rb, 2, none⟩ = some (.int .i64 x.high)) (first | exact ⟨e0_1, e0_2⟩ | exact ⟨e1_1, e1_2⟩ | exact ⟨e2_1, e2_2⟩ | exact ⟨e3_1, e3_2⟩ | exact ⟨e4_1, e4_2⟩) (first | (clear T1; go_at_call 43; refine (l13Put_any W1.heap.size _ L _ (x.low - 1) _ (by exact HO3.out) (by exact hs3) (HWO0.pos2 (by simp [H0L.out])) (by first | omega | (simp; omega)) HWO0).mono ?_; rintro e9 v1 ⟨u1, ys1, rfl, o1, HWO1, l1', b1⟩; have s1 := Nat.le_trans hs3 b1.size; have hlt_1 := Nat.lt_of_lt_of_le hlt_0 b1.size; have e1_1 := (b1.cell (p := ⟨rb, 1, none⟩) hlt_0).trans e0_1; have e1_2 := (b1.cell (p := ⟨rb, 2, none⟩) hlt_0).trans e0_2) | (clear T2; go_at_call 43; refine (l13Put_any W1.heap.size _ (L ++ [(x.low - 1)]) _ x.low _ (by exact o1) (by exact s1) (HWO1.pos2 (by simp [H0L.out])) (by first | omega | (simp; omega)) HWO1).mono ?_; rintro e9 v2 ⟨u2, ys2, rfl, o2, HWO2, l2', b2⟩; have s2 := Nat.le_trans s1 b2.size; have hlt_2 := Nat.lt_of_lt_of_le hlt_1 b2.size; have e2_1 := (b2.cell (p := ⟨rb, 1, none⟩) hlt_1).trans e1_1; have e2_2 := (b2.cell (p := ⟨rb, 2, none⟩) hlt_1).trans e1_2) | (clear T3; go_at_call 43; refine (l13Put_any W1.heap.size _ ((L ++ [(x.low - 1)]) ++ [x.low]) _ x.high _ (by exact o2) (by exact s2) (HWO2.pos2 (by simp [H0L.out])) (by first | omega | (simp; omega)) HWO2).mono ?_; rintro e9 v3 ⟨u3, ys3, rfl, o3, HWO3, l3', b3⟩; have s3 := Nat.le_trans s2 b3.size; have hlt_3 := Nat.lt_of_lt_of_le hlt_2 b3.size; have e3_1 := (b3.cell (p := ⟨rb, 1, none⟩) hlt_2).trans e2_1; have e3_2 := (b3.cell (p := ⟨rb, 2, none⟩) hlt_2).trans e2_2) | (clear T4; go_at_call 43; refine (l13Put_any W1.heap.size _ (((L ++ [(x.low - 1)]) ++ [x.low]) ++ [x.high]) _ (x.high + 1) _ (by exact o3) (by exact s3) (HWO3.pos2 (by simp [H0L.out])) (by first | omega | (simp; omega)) HWO3).mono ?_; rintro e9 v4 ⟨u4, ys4, rfl, o4, HWO4, l4', b4⟩; have s4 := Nat.le_trans s3 b4.size; have hlt_4 := Nat.lt_of_lt_of_le hlt_3 b4.size; have e4_1 := (b4.cell (p := ⟨rb, 1, none⟩) hlt_3).trans e3_1; have e4_2 := (b4.cell (p := ⟨rb, 2, none⟩) hlt_3).trans e3_2))
        clear hw1 hw2
        have HEND : Hid (L ++ [x.low - 1] ++ [x.low] ++ [x.high] ++ [x.high + 1] ++ x.tests.flatMap (nearT f) = 0 :: nearAll (p.rules.take (k + 1)) f) := Lib.hid (by
          rw [HF.out]
          have h0 : x.tests.flatMap (nearT 0) = [] := List.flatMap_eq_nil_iff.2 (fun t ht => by
            have := (HVB.out t ht).1
            unfold nearT
            rw [if_neg (by omega)])
          rw [h0, HLE.out, HF.out, nearAll_take HX.out]
          simp [nearR])
        have HB9 := Lib.hid ((((HB3.out.drew).trans (b1.mono (by exact hs3))).trans (b2.mono s1)).trans (b3.mono s2) |>.trans (b4.mono s3))
        have HR9 := Lib.hid (((((show Blk W3.drew rb _ _ from K3.out).below b1 hlt_0).below b2 hlt_1).below b3 hlt_2).below b4 hlt_3)
        have hlw0 : w.heap.size < W3.heap.size := by omega
        have HK9 := Lib.hid (((((show Blk W3.drew w.heap.size _ _ from HK3.out).below b1 hlw0).below b2 (by omega)).below b3 (by omega)).below b4 (by omega))
        obtain ⟨ZS, hZS⟩ : ∃ Z, Z = L ++ [x.low - 1] ++ [x.low] ++ [x.high] ++ [x.high + 1] := ⟨_, rfl⟩
        have hzl : ZS.length ≤ 101 := by rw [hZS]; simp; omega
        have H0Z : Hid ((0 : Int) ∈ ZS) := Lib.hid (by rw [hZS]; simp [H0L.out])
        rw [← hZS] at HWO4 HEND
        have HWV := Lib.hid HWO4; have HOV := Lib.hid o4
        obtain ⟨V, hV⟩ : ∃ V, V = v4 := ⟨_, rfl⟩
        obtain ⟨U, hU⟩ : ∃ U, U = u4 := ⟨_, rfl⟩
        obtain ⟨Y, hY⟩ : ∃ Y, Y = ys4 := ⟨_, rfl⟩
        rw [← hV] at HB9 HR9 HK9 HOV ⊢
        rw [← hY] at HOV HWV
        rw [← hU] at HOV ⊢
        clear hV hU hY hZS HWO HO3 HK3 HB3 K3 HWO0 HWO1 HWO2 HWO3 HWO4 o1 o2 o3 o4 b1 b2 b3 b4 s1 s2 s3 s4 hlt_0 hlt_1 hlt_2 hlt_3 hlt_4 e0_1 e0_2 e1_1 e1_2 e2_1 e2_2 e3_1 e3_2 e4_1 e4_2 l1' l2' l3' l4' hlw0
        go_upto_region 8 with (fail)
      case' neg =>
        have hf0 : (f == 0) = false := by simp [hf]
        have HF := Lib.hid hf; clear hf
        have HEND : Hid (L ++ x.tests.flatMap (nearT f) = 0 :: nearAll (p.rules.take (k + 1)) f) := Lib.hid (by
          rw [HLE.out, nearAll_take HX.out]
          simp [nearR, HF.out])
        obtain ⟨ZS, hZS⟩ : ∃ Z, Z = L := ⟨_, rfl⟩
        have hzl : ZS.length ≤ 101 := by rw [hZS]; omega
        have H0Z : Hid ((0 : Int) ∈ ZS) := by rw [hZS]; exact H0L
        rw [← hZS] at HEND
        have HWV : Hid (WordsOf ZS xs) := by rw [hZS]; exact HWO
        obtain ⟨V, hV⟩ : ∃ V, V = W3 := ⟨_, rfl⟩
        obtain ⟨U, hU⟩ : ∃ U, U = Value.slice A5 xs.length c5 := ⟨_, rfl⟩
        obtain ⟨Y, hY⟩ : ∃ Y, Y = xs := ⟨_, rfl⟩
        have HB9 := HB3; have HR9 := K3; have HK9 := HK3; have HOV := HO3
        rw [← hV] at HB9 HR9 HK9 HOV ⊢
        rw [← hU] at HOV ⊢
        rw [← hY] at HOV HWV
        clear hV hU hY hZS HF HWO HO3 HK3 HB3 K3
        go_upto_region 8 with (fail)
      all_goals
        have e3 := (show _ = some (Value.slice TA m tc) from HR9.out.cell 3)
        have HSV := Lib.hid (show W1.heap.size ≤ V.heap.size from HB9.out.size)
        clear hs3 HW3
        go_wp2
        go_loopw [5, 8] (fun v i wq => ∃ (j : Nat) (ys : List Int), j ≤ m ∧ i = .int .i64 j ∧ Hid (wq.ownsRow W1.heap.size 3 1 v ys.length (ints ys).flatten) ∧ Hid (WordsOf (ZS ++ (x.tests.take j).flatMap (nearT f)) ys) ∧ Hid (Below W1.heap.size W1 wq) ∧ Hid (Blk wq rb 61 #[.int .i64 x.verdict, .int .i64 x.low, .int .i64 x.high, .slice TA m tc]) ∧ Hid (Blk wq w.heap.size 33 #[.slice (some ⟨b, off, none⟩) n c, .int .i64 p.els])) (fun _ i _ => m - (intOf i).toNat)
        case atStart => exact ⟨0, Y, Nat.zero_le _, rfl, HOV, Lib.hid (by rw [List.take_zero, List.flatMap_nil, List.append_nil]; exact HWV.out), HB9, HR9, HK9⟩
        case round =>
          clear HOV HWV HB9 HR9 HK9 e3 HSV
          obtain ⟨j, ys, hj, rfl, HO6, HWM, HB6, HR6, HK6⟩ := hrel
          have hml : (ZS ++ (x.tests.take j).flatMap (nearT f)).length ≤ 113 := by
            have h1 := nearTs_len f (x.tests.take j)
            rw [List.length_append]
            rw [List.length_take] at h1
            omega
          obtain ⟨M, hM⟩ : ∃ M, M = ZS ++ (x.tests.take j).flatMap (nearT f) := ⟨_, rfl⟩
          rw [← hM] at HWM hml
          have H0L2 : Hid ((0 : Int) ∈ M) := Lib.hid (by rw [hM]; exact List.mem_append_left _ H0Z.out)
          have HM := Lib.hid hM; clear hM
          have e3 := (show _ = some (Value.slice TA m tc) from HR6.out.cell 3)
          obtain ⟨A6, c6, rfl⟩ := own_slN HO6.out
          by_cases hjm : j < m
          · have hji : (j : Int) < m := by omega
            obtain ⟨b2', off2, t, rfl, hab2, ht, hcell2⟩ := ts_get HTS.out hjm
            obtain ⟨q0, q1, q2, q3⟩ := hcell2 wr w.heap.size (HB1.out.trans (HB6.out.mono (by omega))) hab2
            obtain ⟨v00, v0, v1⟩ := HVB.out t (List.mem_of_getElem? ht)
            have HT := Lib.hid ht; have HJM := Lib.hid hjm
            clear hcell2 ht hjm
            obtain ⟨W7, hW7⟩ : ∃ W, W = wr.alloc (.cells #[.int .i64 t.field, .int .i64 t.mask, .int .i64 t.op, .int .i64 t.value] 64) := ⟨_, rfl⟩
            have hb7 : Below wr.heap.size wr W7 := by rw [hW7]; go_grown
            obtain ⟨tb, htb⟩ : ∃ b, b = wr.heap.size := ⟨_, rfl⟩
            have K7 : Hid (Blk W7 tb 64 #[.int .i64 t.field, .int .i64 t.mask, .int .i64 t.op, .int .i64 t.value]) := by rw [hW7, htb]; exact Lib.hid (Blk.new _ _ _)
            have HO7 := Lib.hid (own_below HO6.out hb7)
            have HR7 := Lib.hid (HR6.out.below hb7 HR6.out.lt); have HK7 := Lib.hid (HK6.out.below hb7 HK6.out.lt)
            have HB7 := Lib.hid (show Below W1.heap.size W1 W7 from HB6.out.trans (hb7.mono HB6.out.size))
            have HW7 := Lib.hid hW7
            have hs7 : W1.heap.size ≤ W7.heap.size := HB7.out.size
            clear hW7 hb7
            go_upto_region 12 with (fail)
            rw [← HW7.out, ← htb]
            clear q0 q1 q2 q3 htb e3
            have f0 := (show _ = some (Value.int .i64 t.field) from K7.out.cell 0)
            by_cases hft : t.field = f
            · have hft2 : (t.field == f) = true := by simp [hft]
              have HFT := Lib.hid hft; clear hft
              have e0_3 := (show _ = some (Value.int .i64 t.value) from K7.out.cell 3)
              have hlt_0 : tb < W7.heap.size := K7.out.lt
              have hw1 : IntKind.i64.wrap (t.value - 1) = t.value - 1 := IntWalk.i64_in _ (by omega)
              have hw2 : IntKind.i64.wrap (t.value + 1) = t.value + 1 := IntWalk.i64_in _ (by omega)
              have T1 := Lib.hid True.intro; have T2 := Lib.hid True.intro; have T3 := Lib.hid True.intro
              have HWO0 := HWM.out
              have H0L := H0L2
              have hml2 : M.length ≤ 113 := hml
              go_wp2_with fail
              go_region_held3 (fun w' => w'.cell? ⟨tb, 3, none⟩ = some (.int .i64 t.value)) (first | exact e0_3 | exact e1_3 | exact e2_3 | exact e3_3) (first | (clear T1; go_at_call 43; refine (l13Put_any W1.heap.size _ M _ (t.value - 1) _ (by exact HO7.out) (by exact hs7) (HWO0.pos2 (by simp [H0L.out])) (by first | omega | (simp; omega)) HWO0).mono ?_; rintro e9 v1 ⟨u1, ys1, rfl, o1, HWO1, l1', b1⟩; have s1 := Nat.le_trans hs7 b1.size; have hlt_1 := Nat.lt_of_lt_of_le hlt_0 b1.size; have e1_3 := (b1.cell (p := ⟨tb, 3, none⟩) hlt_0).trans e0_3) | (clear T2; go_at_call 43; refine (l13Put_any W1.heap.size _ (M ++ [(t.value - 1)]) _ t.value _ (by exact o1) (by exact s1) (HWO1.pos2 (by simp [H0L.out])) (by first | omega | (simp; omega)) HWO1).mono ?_; rintro e9 v2 ⟨u2, ys2, rfl, o2, HWO2, l2', b2⟩; have s2 := Nat.le_trans s1 b2.size; have hlt_2 := Nat.lt_of_lt_of_le hlt_1 b2.size; have e2_3 := (b2.cell (p := ⟨tb, 3, none⟩) hlt_1).trans e1_3) | (clear T3; go_at_call 43; refine (l13Put_any W1.heap.size _ ((M ++ [(t.value - 1)]) ++ [t.value]) _ (t.value + 1) _ (by exact o2) (by exact s2) (HWO2.pos2 (by simp [H0L.out])) (by first | omega | (simp; omega)) HWO2).mono ?_; rintro e9 v3 ⟨u3, ys3, rfl, o3, HWO3, l3', b3⟩; have s3 := Nat.le_trans s2 b3.size; have hlt_3 := Nat.lt_of_lt_of_le hlt_2 b3.size; have e3_3 := (b3.cell (p := ⟨tb, 3, none⟩) hlt_2).trans e2_3))
              clear hw1 hw2
              have hlr : rb < W7.heap.size := HR7.out.lt
              have hlw : w.heap.size < W7.heap.size := HK7.out.lt
              have g1 := b1.size; have g2 := b2.size; have g3 := b3.size
              have hdr : W7.drew.heap.size = W7.heap.size := rfl
              have HEN : Hid (ZS ++ (x.tests.take (j + 1)).flatMap (nearT f) = M ++ [t.value - 1] ++ [t.value] ++ [t.value + 1]) := Lib.hid (by
                rw [HM.out, nearT_take HT.out]
                simp [nearT, HFT.out])
              have HB9 := Lib.hid (((HB7.out.drew).trans (b1.mono (by exact hs7))).trans (b2.mono s1) |>.trans (b3.mono s2))
              have HR9 := Lib.hid ((((show Blk W7.drew rb _ _ from HR7.out).below b1 hlr).below b2 (by omega)).below b3 (by omega))
              have HK9 := Lib.hid ((((show Blk W7.drew w.heap.size _ _ from HK7.out).below b1 hlw).below b2 (by omega)).below b3 (by omega))
              have HWV := Lib.hid HWO3; have HOV := Lib.hid o3
              clear HWO0 HWO1 HWO2 HWO3 o1 o2 o3 b1 b2 b3 s1 s2 s3 hlt_0 hlt_1 hlt_2 hlt_3 e0_3 e1_3 e2_3 e3_3 l1' l2' l3' hlr hlw g1 g2 g3 hdr f0
              go_wp2
              exact ⟨⟨j + 1, _, HJM.out, by go_num, HOV, Lib.hid (by rw [HEN.out]; exact HWV.out), HB9, HR9, HK9⟩, by simp [intOf]; have := HJM.out; omega⟩
            · have hft2 : (t.field == f) = false := by simp [hft]
              have HFT := Lib.hid hft; clear hft
              go_wp2
              exact ⟨⟨j + 1, ys, HJM.out, by go_num, HO7, Lib.hid (by
                rw [nearT_take HT.out, ← List.append_assoc, ← HM.out]
                simp only [nearT, HFT.out, if_false, List.append_nil]
                exact HWM.out), HB7, HR7, HK7⟩, by simp [intOf]; have := HJM.out; omega⟩
          · obtain rfl : j = m := by omega
            have e : M = 0 :: nearAll (p.rules.take (k + 1)) f := by
              rw [HM.out, show x.tests.take j = x.tests from List.take_of_length_le (by rw [HTL.out]; exact Nat.le_refl _)]
              exact HEND.out
            have HE := Lib.hid e; clear e
            go_wp2
            exact ⟨⟨k + 1, ys, HLT.out, by go_num, HO6, Lib.hid (by rw [← HE.out]; exact HWM.out), HB6, HK6⟩, by simp [intOf]; have := HLT.out; omega⟩
    · obtain rfl : k = n := by omega
      have hfl : p.rules.take k = p.rules := List.take_of_length_le (by rw [HPL.out]; exact Nat.le_refl _)
      have HV : Hid (xs = nearW p.rules f) := Lib.hid (HWO.out.one (by rw [HLE.out, hfl]; exact WordsOf.near _ _))
      have hsw : w.heap.size ≤ W1.heap.size := by rw [HZ.out]; omega
      clear hfl HW HW2 HSA HR HPL HT4 HUL HBD HP HLE
      go_wp2
      go_ret
      exact ⟨_, rfl, by rw [← HV.out]; exact own_base HO.out hsw, HB1.out.trans (HBW.out.mono hsw)⟩
end Go.Proofs.YtkiacbfpnidjlaaGreatDoor
