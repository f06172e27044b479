/- impl.nearWords: the near words of a field, ascending, each once. -/
import Derived.Test.YtkiacbfpnidjlaaGreatDoorWordsI
import Derived.Test.YtkiacbfpnidjlaaGreatDoorTxt
import Derived.Deep.CutBlock
namespace Go.Proofs.YtkiacbfpnidjlaaGreatDoor
open Go.RowKit
set_option linter.unusedSimpArgs false
set_option linter.unusedVariables false

theorem own_gbN {w w' : World} {base n : Nat} {e : TypeId} {size : Nat} {v : Value} {xs : List Value} (h : w.ownsRow base e size v n xs) (hg : w.grownBy w' v.ownBlock) (hb : base ≤ w.heap.size) : Below base w w' :=
  (Below.refl base w).grown hg hb (fun k hk => (h.lt k hk).1)
/-- 'append(out, x, y, ..)'. -/
theorem wpList_appN {P : Program} {w0 : World} {ops : Array Oper} {rest : List Oper} {o : Oper} {a : Act} {Q : Exit → Act → World → Prop} {e2 : TypeId} {r : List Value} (m : Nat) (hgd : o.guard = none) (s x : Operand) (t : TypeId)
    (ho : o.op = .call { callee := .builtin .append, args := #[s, x], argTypes := #[t, t] })
    (base : Nat) (e : TypeId) {z : Value} {size bytes : Nat} (ht : P.underlying t = some (.slice e)) (hinfo : (P.info? e).map (fun i => (i.zero, i.size, i.bytes)) = some (some z, size, bytes))
    (hzs : z.cells.size = size) (hsz : 0 < size) (hby : 0 < bytes)
    (v : Value) (n : Nat) (cs : List Value) (hs : a.eval s = v) (hown : w0.ownsRow base e size v n cs)
    (hr : r.length = m * size) (h1 : ∀ u ∈ r, u.oneCell' = true) (hx : a.eval x = .slice (some ⟨w0.heap.size, 0, none⟩) m m)
    (hn : (n + m) * bytes ≤ 140737488355328) (hbase : base ≤ w0.heap.size)
    (h : ∀ v' w', w'.ownsRow base e size v' (n + m) (cs ++ r) → w0.grownBy w' v.ownBlock → wpList P ops Q rest (a.put o.dst v') w') :
    wpList P ops Q (o :: rest) a (w0.alloc (.cells r.toArray e2)) := by
  obtain ⟨i0, hi0, hz0, hz1, hz2⟩ := info_parts hinfo
  have hn1 : n + m ≤ 140737488355328 := Nat.le_trans (Nat.le_mul_of_pos_right _ hby) hn
  refine wpList_append_own _ hgd s x t ho base e i0 z size bytes ht hi0 hz0 hz1 hz2 hzs hsz v n cs hs (hown.alloc _) ⟨w0.heap.size, 0, none⟩ m m r hx hr (fun j u hu => ?_) h1 (by unfold maxLen; omega) hn
    (by simp; omega) (fun v' w' hown' hg hv => h v' w' hown' ((World.grownBy_alloc w0 _ _).trans hg))
  rw [add_at, cell_of_row _ _ _ r.toArray e2 (0, 0) (heap_alloc_new w0 _)]
  simpa using hu
theorem own_slN {w : World} {base : Nat} {v : Value} {xs : List Int} (h : w.ownsRow base 3 1 v xs.length (ints xs).flatten) : ∃ A c, v = .slice A xs.length c := by
  obtain ⟨A, n, c, rfl, hA⟩ := SlA.of_own h (ints_len _) (ints_rows _)
  exact ⟨A, c, by rw [← hA.len, ints_len]⟩
theorem ints_app (xs ys : List Int) : (ints (xs ++ ys)).flatten = (ints xs).flatten ++ ys.map (Value.int .i64) := by rw [ints_flat, ints_flat, List.map_append]
theorem zero_cons (zs : List Int) (ys : List Int) : (0 :: zs) ++ ys = 0 :: (zs ++ ys) := rfl

def WordsPost (rs : List Rl) (f : Int) (w : World) (e : Ending) (w' : World) : Prop := ∃ v, e = .returned v ∧ w'.ownsRow w.heap.size 3 1 v (nearW rs f).length (ints (nearW rs f)).flatten ∧ Below w.heap.size w w'

set_option maxRecDepth 100000 in
set_option maxHeartbeats 8000000 in
theorem nearWords_any (p : Pol) (f : Int) (v : Value) (w : World) (hP : PolIs w p v) (hn8 : p.rules.length ≤ 8) (ht4 : ∀ r ∈ p.rules, r.tests.length ≤ 4) (hbd : ∀ r ∈ p.rules, (0 ≤ r.low ∧ r.low ≤ 4294967295) ∧ (0 ≤ r.high ∧ r.high ≤ 4294967295) ∧ ∀ t ∈ r.tests, 0 ≤ t.value ∧ t.value ≤ 4294967295) :
    Calls Tryz.prog 36 #[v, .int .i64 f] w (WordsPost p.rules f w) := by
  have hul : ∀ k, (0 :: nearAll (p.rules.take k) f).length ≤ 97 := fun k => by
    have h1 := nearAll_len f (p.rules.take k) (fun r hr => ht4 r (List.mem_of_mem_take hr))
    have h2 : (p.rules.take k).length ≤ 8 := by rw [List.length_take]; omega
    simp only [List.length_cons]
    omega
  have HP := Lib.hid hP
  obtain ⟨rv, css, rfl, ⟨A, n, c, rfl, hSA⟩, hR⟩ := hP
  have hpl : p.rules.length = n := by rw [← hR.1, hSA.len]
  have hc := hSA.cap
  have hm := hSA.max
  unfold maxLen at hm
  obtain ⟨W1, hW1⟩ : ∃ W, W = w.alloc (.cells #[.slice A n c, .int .i64 p.els] 33) := ⟨_, rfl⟩
  have hb1 : Below w.heap.size w W1 := by rw [hW1]; go_grown
  have K1 : Blk W1 w.heap.size 33 #[.slice A n c, .int .i64 p.els] := by rw [hW1]; exact Blk.new w _ _
  have hz1 : W1.heap.size = w.heap.size + 1 := by rw [hW1]; simp
  obtain ⟨W2, hW2⟩ : ∃ W, W = W1.alloc (.cells #[.int .i64 0] 3) := ⟨_, rfl⟩
  have hb2 : Below W1.heap.size W1 W2 := by rw [hW2]; go_grown
  have hO2 : W2.ownsRow W1.heap.size 3 1 (.slice (some ⟨w.heap.size + 1, 0, none⟩) 1 1) (0 :: nearAll (p.rules.take 0) f).length (ints (0 :: nearAll (p.rules.take 0) f)).flatten := by
    rw [hW2, ← hz1]
    exact World.ownsRow_lit (base := W1.heap.size) (e := 3) (size := 1) W1 #[.int .i64 0] 1 (Nat.le_refl _) (by unfold maxLen; omega) rfl
  have y0 : W2.cell? ⟨w.heap.size, 0, none⟩ = some (.slice A n c) := (K1.below hb2 K1.lt).cell 0
  have hs12 : W1.heap.size ≤ W2.heap.size := hb2.size
  have HW := Lib.hid hW1; have HW2 := Lib.hid hW2; have HB := Lib.hid (below_then hb1 hb2); have HO := Lib.hid hO2; have HZ := Lib.hid hz1
  have HSA := Lib.hid hSA; have HR := Lib.hid hR; have HPL := Lib.hid hpl; have HT4 := Lib.hid ht4; have HUL := Lib.hid hul; have HBD := Lib.hid hbd; have HB1 := Lib.hid hb1
  have hn8' : n ≤ 8 := by omega
  clear hW1 hW2 hb1 hb2 hO2 K1 hz1 hSA hR hpl ht4 hul hbd hn8
  go_enter Tryz.func36, Tryz.ntmps36
  go_upto_region 2 with (fail)
  rw [← HW.out, ← HW2.out]
  go_wp2
  clear y0
  go_loopw [5, 14] (fun v i wr => ∃ k : Nat, k ≤ n ∧ i = .int .i64 k ∧ Hid (wr.ownsRow W1.heap.size 3 1 v (0 :: nearAll (p.rules.take k) f).length (ints (0 :: nearAll (p.rules.take k) f)).flatten) ∧ Hid (Below W1.heap.size W1 wr)) (fun _ i _ => n - (intOf i).toNat)
  case atStart => exact ⟨0, Nat.zero_le _, rfl, HO, Lib.hid (by rw [HW2.out]; go_grown)⟩
  case round =>
    obtain ⟨k, hk, rfl, HO, HBW⟩ := hrel
    have hul := HUL.out k
    obtain ⟨L, hL⟩ : ∃ L, L = 0 :: nearAll (p.rules.take k) f := ⟨_, rfl⟩
    rw [← hL] at HO hul
    have HLE := Lib.hid hL; clear hL
    obtain ⟨A5, c5, rfl⟩ := own_slN HO.out
    have hsz : W1.heap.size ≤ wr.heap.size := HBW.out.size
    by_cases hlt : k < n
    · have hki : (k : Int) < n := by omega
      obtain ⟨b, off, x, tv, rfl, hab, hx, hst, hcell⟩ := rules_get HSA.out HR.out hlt
      obtain ⟨TA, m, tc, rfl, hTS⟩ := hst
      have htl : x.tests.length = m := by have := hTS.len; rwa [tsR_len] at this
      have hm4 : m ≤ 4 := by rw [← htl]; exact HT4.out x (List.mem_of_getElem? hx)
      have htc := hTS.cap
      have htm := hTS.max
      unfold maxLen at htm
      obtain ⟨⟨l0, l1⟩, ⟨g0, g1⟩, hvb⟩ := HBD.out x (List.mem_of_getElem? hx)
      obtain ⟨q0, q1, q2, q3⟩ := hcell wr w.heap.size (HB1.out.trans (HBW.out.mono (by rw [HZ.out]; omega))) hab
      have HX := Lib.hid hx; have HTS := Lib.hid hTS; have HTL := Lib.hid htl; have HLT := Lib.hid hlt; have HVB := Lib.hid hvb
      obtain ⟨W3, hW3⟩ : ∃ W, W = wr.alloc (.cells #[.int .i64 x.verdict, .int .i64 x.low, .int .i64 x.high, .slice TA m tc] 61) := ⟨_, rfl⟩
      have hb3 : Below wr.heap.size wr W3 := by rw [hW3]; go_grown
      have K3 : Hid (Blk W3 wr.heap.size 61 #[.int .i64 x.verdict, .int .i64 x.low, .int .i64 x.high, .slice TA m tc]) := by rw [hW3]; exact Lib.hid (Blk.new _ _ _)
      have HO3 := Lib.hid (own_below HO.out hb3)
      have HB3 := Lib.hid (show Below W1.heap.size W1 W3 from HBW.out.trans (hb3.mono hsz))
      have HW3 := Lib.hid hW3
      have hs3 : W1.heap.size ≤ W3.heap.size := HB3.out.size
      clear hW3 hb3 hcell hx hTS htl hlt hvb
      go_upto_region 5 with (fail)
      rw [← HW3.out]
      clear q0 q1 q2 q3
      by_cases hf : f = 0
      · subst hf
        have e1 := (show _ = some (Value.int .i64 x.low) from K3.out.cell 1); have e2 := (show _ = some (Value.int .i64 x.high) from K3.out.cell 2)
        go_wp2_with (at_builtin; go_must (refine wpList_appN (w0 := W3) 4 rfl (.tmp 20) (.tmp 31) _ rfl W1.heap.size 3 Tryz.underlying26 info_int rfl (by omega) (by omega) _ L.length (ints L).flatten rfl HO3.out (r := [.int .i64 (x.low - 1), .int .i64 x.low, .int .i64 x.high, .int .i64 (x.high + 1)]) rfl (by simp [Value.oneCell']) rfl (by omega) (by exact hs3) ?_); intro v5 w5 hown5 hg5)
        have HB5 := Lib.hid (HB3.out.trans (own_gbN HO3.out hg5 hs3))
        refine ⟨⟨k + 1, by omega, by go_num, ?_, HB5⟩, by simp [intOf]; try omega⟩
        have e : 0 :: nearAll (p.rules.take (k + 1)) 0 = L ++ [x.low - 1, x.low, x.high, x.high + 1] := by
          rw [HLE.out, nearAll_take HX.out]
          simp [nearR]
        rw [e, ints_app, List.length_append]
        exact Lib.hid hown5
      · have hf0 : (f == 0) = false := by simp [hf]
        have HF := Lib.hid hf; clear hf
        have e3 := (show _ = some (Value.slice TA m tc) from K3.out.cell 3)
        go_wp2_with fail
        go_loopw [5, 36] (fun v i wq => ∃ j : Nat, j ≤ m ∧ i = .int .i64 j ∧ Hid (wq.ownsRow W1.heap.size 3 1 v (L ++ (x.tests.take j).flatMap (nearT f)).length (ints (L ++ (x.tests.take j).flatMap (nearT f))).flatten) ∧ Hid (Below W1.heap.size W1 wq)) (fun _ i _ => m - (intOf i).toNat)
        case atStart => exact ⟨0, Nat.zero_le _, rfl, by rw [List.take_zero, List.flatMap_nil, List.append_nil]; exact HO3, HB3⟩
        case round =>
          clear HO3 HB3 e3 K3 HW3 hs3
          obtain ⟨j, hj, rfl, HO6, HB6⟩ := hrel
          have hjl : (L ++ (x.tests.take j).flatMap (nearT f)).length ≤ 109 := by
            have h1 := nearTs_len f (x.tests.take j)
            rw [List.length_append]
            rw [List.length_take] at h1
            omega
          obtain ⟨M, hM⟩ : ∃ M, M = L ++ (x.tests.take j).flatMap (nearT f) := ⟨_, rfl⟩
          rw [← hM] at HO6 hjl
          have HM := Lib.hid hM; clear hM
          obtain ⟨A6, c6, rfl⟩ := own_slN HO6.out
          by_cases hjm : j < m
          · have hji : (j : Int) < m := by omega
            obtain ⟨b2, off2, t, rfl, hab2, ht, hcell2⟩ := ts_get HTS.out hjm
            obtain ⟨q0, q1, q2, q3⟩ := hcell2 wr w.heap.size (HB1.out.trans (HB6.out.mono (by rw [HZ.out]; omega))) hab2
            obtain ⟨v0, v1⟩ := HVB.out t (List.mem_of_getElem? ht)
            have HT := Lib.hid ht; have HJM := Lib.hid hjm
            clear hcell2 ht hjm
            obtain ⟨W7, hW7⟩ : ∃ W, W = wr.alloc (.cells #[.int .i64 t.field, .int .i64 t.mask, .int .i64 t.op, .int .i64 t.value] 64) := ⟨_, rfl⟩
            have hb7 : Below wr.heap.size wr W7 := by rw [hW7]; go_grown
            have K7 : Hid (Blk W7 wr.heap.size 64 #[.int .i64 t.field, .int .i64 t.mask, .int .i64 t.op, .int .i64 t.value]) := by rw [hW7]; exact Lib.hid (Blk.new _ _ _)
            have HO7 := Lib.hid (own_below HO6.out hb7)
            have HB7 := Lib.hid (show Below W1.heap.size W1 W7 from HB6.out.trans (hb7.mono HB6.out.size))
            have HW7 := Lib.hid hW7
            have hs7 : W1.heap.size ≤ W7.heap.size := HB7.out.size
            clear hW7 hb7
            go_upto_region 10 with (fail)
            rw [← HW7.out]
            clear q0 q1 q2 q3
            have f0 := (show _ = some (Value.int .i64 t.field) from K7.out.cell 0); have f3 := (show _ = some (Value.int .i64 t.value) from K7.out.cell 3)
            by_cases hft : t.field = f
            · have hft2 : (t.field == f) = true := by simp [hft]
              have HFT := Lib.hid hft; clear hft
              go_wp2_with (at_builtin; go_must (refine wpList_appN (w0 := W7) 3 rfl (.tmp 44) (.tmp 53) _ rfl W1.heap.size 3 Tryz.underlying26 info_int rfl (by omega) (by omega) _ M.length (ints M).flatten rfl HO7.out (r := [.int .i64 (t.value - 1), .int .i64 t.value, .int .i64 (t.value + 1)]) rfl (by simp [Value.oneCell']) rfl (by omega) (by exact hs7) ?_); intro v8 w8 hown8 hg8)
              have HB8 := Lib.hid (HB7.out.trans (own_gbN HO7.out hg8 hs7))
              refine ⟨⟨j + 1, HJM.out, by go_num, ?_, HB8⟩, by simp [intOf]; try omega⟩
              have e : L ++ (x.tests.take (j + 1)).flatMap (nearT f) = M ++ [t.value - 1, t.value, t.value + 1] := by
                rw [HM.out, nearT_take HT.out, List.append_assoc]
                simp [nearT, HFT.out]
              rw [e, ints_app, List.length_append]
              exact Lib.hid hown8
            · have hft2 : (t.field == f) = false := by simp [hft]
              have HFT := Lib.hid hft; clear hft
              go_wp2
              refine ⟨⟨j + 1, HJM.out, by go_num, ?_, HB7⟩, by simp [intOf]; try omega⟩
              have e : L ++ (x.tests.take (j + 1)).flatMap (nearT f) = M := by
                rw [HM.out, nearT_take HT.out]
                simp [nearT, HFT.out]
              rw [e]
              exact HO7
          · obtain rfl : j = m := by omega
            have e : M = 0 :: nearAll (p.rules.take (k + 1)) f := by
              rw [HM.out, HLE.out, nearAll_take HX.out, show x.tests.take j = x.tests from List.take_of_length_le (by rw [HTL.out]; exact Nat.le_refl _)]
              simp [nearR, HF.out]
            have HE := Lib.hid e; clear e
            go_wp2
            exact ⟨⟨k + 1, HLT.out, by go_num, by rw [← HE.out]; exact HO6, HB6⟩, by simp [intOf]; try omega⟩
    · obtain rfl : k = n := by omega
      have hfl : p.rules.take k = p.rules := List.take_of_length_le (by rw [HPL.out]; exact Nat.le_refl _)
      have hl0 : 0 < L.length := by rw [HLE.out]; simp
      have hv : Lib.compact ((L.filter wordB).mergeSort fun x y => decide (x ≤ y)) = nearW p.rules f := by rw [HLE.out, hfl]; rfl
      have HV := Lib.hid hv; clear hfl hv
      have hsw : w.heap.size ≤ W1.heap.size := by rw [HZ.out]; omega
      clear HW HW2 HSA HR HPL HT4 HUL HBD HP HLE
      go_wp2_with fail
      refine (DeleteFunc_own W1.heap.size _ _ _ _ HO.out rfl (by omega) hl0).mono ?_; rintro e w3 ⟨v3, rfl, own3, hb3⟩
      have hfl : (L.filter wordB).length ≤ 97 := Nat.le_trans (List.length_filter_le _ _) hul
      obtain ⟨M, hM⟩ : ∃ M, M = L.filter wordB := ⟨_, rfl⟩
      rw [← hM] at own3 HV hfl
      clear hM
      go_wp2_with fail
      refine (Sort_own W1.heap.size _ _ _ _ own3 rfl (by omega)).mono ?_; rintro e w4 ⟨rfl, own4, hb4⟩
      have hml : (M.mergeSort fun x y => decide (x ≤ y)).length = M.length := by simp
      go_wp2_with fail
      refine (Compact_own W1.heap.size _ _ _ _ own4 hml (by omega)).mono ?_; rintro e w5 ⟨v5, rfl, own5, hb5⟩
      rw [HV.out] at own5
      have HO5 := Lib.hid own5; clear own5 own4 own3
      go_wp2
      go_ret
      exact ⟨_, rfl, own_base HO5.out hsw, HB1.out.trans ((HBW.out.trans (hb3.trans (hb4.trans hb5))).mono hsw)⟩
end Go.Proofs.YtkiacbfpnidjlaaGreatDoor
