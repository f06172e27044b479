/- spec's reader of policies on any text: verdicts and tests, and what a fine one's text gives. -/
import Derived.Test.YtdjgicapbpoigaaGreatDoorSrdA
import Derived.Test.YtdjgicapbpoigaaGreatDoorSrdQ
namespace Go.Proofs.YtdjgicapbpoigaaGreatDoor
open Go.RowKit
set_option linter.unusedSimpArgs false
set_option linter.unusedVariables false

theorem rdVerdict_all (l : List UInt8) (w : World) :
   Calls Tryz.prog 26 #[.string ⟨l.toArray⟩] w fun e w' => ∃ v : Int, e = .returned (.int .i64 v) ∧ ((0 ≤ v ∧ v ≤ 4) ∧ (v ≠ 0 → verdNm v = l) ∧ (v = 0 → ∀ j : Nat, 1 ≤ j → j ≤ 4 → verdNm j ≠ l)) ∧ Below w.heap.size w w' := by
 go_enter Tryz.func26, Tryz.ntmps26
 go_wp2
 go_loopw [3] (fun i wr => ∃ k : Nat, 1 ≤ k ∧ k ≤ 5 ∧ i = .int .i64 k ∧ Below w.heap.size w wr ∧ Hid (∀ j : Nat, 1 ≤ j → j < k → verdNm j ≠ l)) (fun i _ => 5 - (intOf i).toNat)
 case atStart => exact ⟨1, by omega, by omega, rfl, Below.refl _ _, Lib.hid (fun j h1 h2 => by omega)⟩
 case round =>
   obtain ⟨k, hk1, hk5, rfl, hb, HN⟩ := hrel
   by_cases hlt : k ≤ 4
   · have hki : (k : Int) ≤ 4 := by omega
     go_wp2_with fail
     refine (l2Word_any (k : Int) wr ⟨by omega, by omega⟩).mono ?_; rintro e w1 ⟨rfl, hb1⟩
     have HB := Lib.hid (below_then hb hb1)
     clear hb hb1
     by_cases he : verdNm k = l
     · have hd : (verdNm k == l) = true := by simp [he]
       have HE := Lib.hid he
       clear he
       go_wp2
       go_ret
       exact ⟨k, rfl, ⟨⟨by omega, hki⟩, fun _ => HE.out, fun h => by omega⟩, HB.out⟩
     · have hd : (verdNm k == l) = false := by simpa using he
       have HE := Lib.hid he
       clear he
       go_wp2
       exact ⟨⟨k + 1, by omega, by omega, by go_num, HB.out, Lib.hid (fun j h1 h2 => by
         rcases Nat.lt_or_ge j k with h3 | h3
         · exact HN.out j h1 h3
         · rw [show j = k by omega]; exact HE.out)⟩, by simp [intOf]; omega⟩
   · have hki : ¬ (k : Int) ≤ 4 := by omega
     go_wp2
     go_ret
     exact ⟨0, rfl, ⟨⟨by omega, by omega⟩, fun h => absurd rfl h, fun _ j h1 h2 => HN.out j h1 (by omega)⟩, hb⟩
theorem test_fin {w w' : World} {l : List UInt8} {f m o v : Int} (h : ∀ t' : Ts, testOkB t' = true → l = testWord t' → (⟨f, m, o, v⟩ : Ts) = t') (hb : Below w.heap.size w w') :
   ∃ t : Ts, (Ending.returned (.agg #[.int .i64 f, .int .i64 m, .int .i64 o, .int .i64 v])) = .returned (.agg #[.int .i64 t.field, .int .i64 t.mask, .int .i64 t.op, .int .i64 t.value]) ∧ (∀ t' : Ts, testOkB t' = true → l = testWord t' → t = t') ∧ Below w.heap.size w w' := ⟨⟨f, m, o, v⟩, rfl, h, hb⟩
theorem drop_of (l : List UInt8) (a : Nat) : ((⟨l.toArray⟩ : ByteArray).extract a l.length).data.toList = l.drop a := by
 rw [Lib.extract_eq]
 simp only [List.toList_toArray]
 exact List.take_of_length_le (by simp)
theorem take_of (l : List UInt8) (a b : Nat) : ((⟨l.toArray⟩ : ByteArray).extract a b).data.toList = (l.drop a).take (b - a) := by
 rw [Lib.extract_eq]
set_option maxHeartbeats 8000000 in
theorem rdTest_all (l : List UInt8) (w : World) (hs : l.length ≤ 1048576) :
   Calls Tryz.prog 51 #[.string ⟨l.toArray⟩] w fun e w' => ∃ t : Ts, e = .returned (.agg #[.int .i64 t.field, .int .i64 t.mask, .int .i64 t.op, .int .i64 t.value]) ∧ (∀ t' : Ts, testOkB t' = true → l = testWord t' → t = t') ∧ Below w.heap.size w w' := by
 obtain ⟨W2, hW2⟩ : ∃ W, W = (w.alloc (.cells #[.int .i64 0, .int .i64 0, .int .i64 0, .int .i64 0] TTestS)).alloc (.cells #[.int .i64 0, .int .i64 4294967295, .int .i64 0, .int .i64 (-1)] TTestS) := ⟨_, rfl⟩
 have T2 : Hid (TT w W2 (w.heap.size + 1) 0 4294967295 0 (-1)) := by
   rw [hW2]
   have h1 := Blk.new (w.alloc (.cells #[.int .i64 0, .int .i64 0, .int .i64 0, .int .i64 0] TTestS)) TTestS #[.int .i64 0, .int .i64 4294967295, .int .i64 0, .int .i64 (-1)]
   exact Lib.hid ⟨by simpa using h1, (Blk.new _ _ _).alloc _, by go_grown, Nat.lt_succ_self _⟩
 have HW2 := Lib.hid hW2
 clear hW2
 go_enter Tryz.func51, Tryz.ntmps51
 go_wp2
 rw [← HW2.out]
 go_loopw [4, 5] (fun a i wr => ∃ (av k : Nat) (op : Int), a = .int .i64 av ∧ i = .int .i64 k ∧ k ≤ l.length ∧ (av = 0 ∨ av < l.length) ∧ Hid (TT w wr (w.heap.size + 1) 0 4294967295 op (-1)) ∧ Hid (WishO l k av op)) (fun _ i _ => l.length - (intOf i).toNat)
 case atStart => exact ⟨0, 0, 0, rfl, rfl, by omega, .inl rfl, T2, Lib.hid (WishO.start l)⟩
 case round =>
   obtain ⟨av, k, op, rfl, rfl, hk, hav, HT, HWO⟩ := hrel
   clear T2
   by_cases hgo : k < l.length ∧ av = 0
   · obtain ⟨hlt, rfl⟩ := hgo
     have hki : (k : Int) < l.length := by omega
     go_wp2_with fail
     obtain ⟨y, hy⟩ : ∃ y : List UInt8, y = [l[k]] := ⟨_, rfl⟩
     have hx : (⟨l.toArray⟩ : ByteArray).extract k (k + 1) = ⟨y.toArray⟩ := by
       rw [Lib.extract_eq, hy, Nat.add_sub_cancel_left]
       simp only [List.toList_toArray]
       rw [List.drop_eq_getElem_cons hlt]
       rfl
     have HYT : Hid (∀ kv : Nat, (y == [signB kv]) = true → l[k]? = some (signB kv)) := Lib.hid (fun kv h => by
       rw [hy] at h
       simp at h
       rw [List.getElem?_eq_getElem hlt, h])
     have HYF : Hid (∀ kv : Nat, (y == [signB kv]) = false → l[k]? ≠ some (signB kv)) := Lib.hid (fun kv h e => by
       rw [List.getElem?_eq_getElem hlt] at e
       rw [hy, Option.some.inj e] at h
       simp at h)
     clear hy
     go_loopw [4, 6] (fun a kk wx => ∃ (av kv : Nat) (op' : Int), a = .int .i64 av ∧ kk = .int .i64 kv ∧ 1 ≤ kv ∧ kv ≤ 4 ∧ (av = 0 ∨ av < l.length) ∧ Hid (TT w wx (w.heap.size + 1) 0 4294967295 op' (-1)) ∧ Hid (WishI l k kv av op')) (fun _ kk _ => 4 - (intOf kk).toNat)
     case atStart => exact ⟨0, 1, op, rfl, rfl, by omega, by omega, .inl rfl, HT, Lib.hid HWO.out.inner⟩
     case round =>
       clear HT
       obtain ⟨av, kv, op', rfl, rfl, hk1, hk4, hav2, HT, HWI⟩ := hrel
       by_cases hkv : kv ≤ 3
       · have hz := HT.out.test.lt
         obtain rfl | rfl | rfl : kv = 1 ∨ kv = 2 ∨ kv = 3 := by omega
         · cases he : (y == [61]) with
           | true =>
             have y2 := (show _ = some (Value.int .i64 op') from HT.out.test.cell 2); have q2 := HT.out.test.frozen 2
             go_wp2
             go_region
             all_goals go_wp2
             all_goals exact ⟨⟨k, 2, 1, rfl, rfl, by omega, by omega, .inr hlt, Lib.hid (by first | exact (HT.out.next (by go_grown)).set 2 1 0 4294967295 1 (-1) rfl | exact (HT.out.set 2 1 0 4294967295 1 (-1) rfl).next (by go_grown)), Lib.hid (WishI.hit (kv := 1) ⟨by omega, by omega⟩ (HYT.out 1 he) HWI.out)⟩, by simp [intOf]⟩
           | false =>
             go_wp2
             go_region
             all_goals go_wp2
             all_goals exact ⟨⟨av, 2, op', rfl, rfl, by omega, by omega, hav2, Lib.hid (HT.out.next (by go_grown)), Lib.hid (WishI.miss (kv := 1) (HYF.out 1 he) HWI.out)⟩, by simp [intOf]⟩
         · cases he : (y == [60]) with
           | true =>
             have y2 := (show _ = some (Value.int .i64 op') from HT.out.test.cell 2); have q2 := HT.out.test.frozen 2
             go_wp2
             go_region
             all_goals go_wp2
             all_goals exact ⟨⟨k, 3, 2, rfl, rfl, by omega, by omega, .inr hlt, Lib.hid (by first | exact (HT.out.next (by go_grown)).set 2 2 0 4294967295 2 (-1) rfl | exact (HT.out.set 2 2 0 4294967295 2 (-1) rfl).next (by go_grown)), Lib.hid (WishI.hit (kv := 2) ⟨by omega, by omega⟩ (HYT.out 2 he) HWI.out)⟩, by simp [intOf]⟩
           | false =>
             go_wp2
             go_region
             all_goals go_wp2
             all_goals exact ⟨⟨av, 3, op', rfl, rfl, by omega, by omega, hav2, Lib.hid (HT.out.next (by go_grown)), Lib.hid (WishI.miss (kv := 2) (HYF.out 2 he) HWI.out)⟩, by simp [intOf]⟩
         · cases he : (y == [62]) with
           | true =>
             have y2 := (show _ = some (Value.int .i64 op') from HT.out.test.cell 2); have q2 := HT.out.test.frozen 2
             go_wp2
             go_region
             all_goals go_wp2
             all_goals exact ⟨⟨k, 4, 3, rfl, rfl, by omega, by omega, .inr hlt, Lib.hid (by first | exact (HT.out.next (by go_grown)).set 2 3 0 4294967295 3 (-1) rfl | exact (HT.out.set 2 3 0 4294967295 3 (-1) rfl).next (by go_grown)), Lib.hid (WishI.hit (kv := 3) ⟨by omega, by omega⟩ (HYT.out 3 he) HWI.out)⟩, by simp [intOf]⟩
           | false =>
             go_wp2
             go_region
             all_goals go_wp2
             all_goals exact ⟨⟨av, 4, op', rfl, rfl, by omega, by omega, hav2, Lib.hid (HT.out.next (by go_grown)), Lib.hid (WishI.miss (kv := 3) (HYF.out 3 he) HWI.out)⟩, by simp [intOf]⟩
       · have hkv2 : ¬ (kv : Int) ≤ 3 := by omega
         go_wp2
         exact ⟨⟨av, k + 1, op', rfl, by go_num, by omega, hav2, HT, Lib.hid (WishI.outer ((show kv = 4 by omega) ▸ HWI.out))⟩, by simp [intOf]; omega⟩
   · rcases Nat.lt_or_ge k l.length with hkl | hkl
     · have hav0 : ¬ av = 0 := fun e => hgo ⟨hkl, e⟩
       have hal : av < l.length := by omega
       have ha0 : ((av : Int) == 0) = false := by simp; omega
       have hali : (av : Int) + 1 ≤ l.length := by omega
       have hl0 : (0 : Int) < l.length := by omega
       obtain ⟨c, l', rfl⟩ : ∃ c l', l = c :: l' := by cases l with | nil => simp at hal | cons c l' => exact ⟨c, l', rfl⟩
       have hki2 : (k : Int) < (l'.length : Int) + 1 := by simp at hkl; omega
       have hal2 : (av : Int) ≤ l'.length := by simp at hal; omega
       have hal3 : av ≤ l'.length := by simp at hal; omega
       have hav1 : (1 : Int) ≤ av := by omega
       have hg0 : ∀ h : 0 < (⟨(c :: l').toArray⟩ : ByteArray).size, (⟨(c :: l').toArray⟩ : ByteArray)[0]'h = c := fun _ => rfl
       by_cases hc : c = 97
       · have hcd : ((c.toNat : Int) != 97) = false := by rw [hc]; rfl
         clear hc
         go_wp2_with fail
         refine (l2Num_any _ wr).mono ?_; rintro e w1 ⟨rfl, rfl⟩
         obtain ⟨n3, hn3⟩ : ∃ n3, n3 = numOf ((⟨(c :: l').toArray⟩ : ByteArray).extract (av + 1) (l'.length + 1)).data.toList := ⟨_, rfl⟩
         rw [← hn3]
         have HN3 : Hid (n3 = numOf ((c :: l').drop (av + 1))) := Lib.hid (by rw [hn3]; exact congrArg numOf (drop_of (c :: l') (av + 1)))
         clear hn3
         have y3 := (show _ = some (Value.int .i64 (-1)) from HT.out.test.cell 3); have q3 := HT.out.test.frozen 3
         have S3 := Lib.hid (HT.out.set 3 n3 0 4294967295 op n3 rfl)
         obtain ⟨W3, hW3⟩ : ∃ W, W = wr.setCell ⟨w.heap.size + 1, 3, none⟩ (.int .i64 n3) := ⟨_, rfl⟩
         rw [← hW3] at S3
         have HW3 := Lib.hid hW3
         clear hW3
         have hsx : ((⟨(c :: l').toArray⟩ : ByteArray).extract 1 av).size ≤ 16777216 := by
           rw [ByteArray.size_extract]
           have : (⟨(c :: l').toArray⟩ : ByteArray).size = l'.length + 1 := rfl
           simp at hs
           omega
         obtain ⟨sx, hsx'⟩ : ∃ sx, sx = (⟨(c :: l').toArray⟩ : ByteArray).extract 1 av := ⟨_, rfl⟩
         have HSX := Lib.hid hsx'
         rw [← hsx'] at hsx
         clear hsx'
         go_wp2_with (first | rw [← HW3.out, ← HSX.out] | rw [← HW3.out])
         try rw [← HSX.out]
         refine (show Calls Tryz.prog 24 #[.string sx, .int .u8 38] W3 _ from (l2Cut_any sx 38 W3 hsx)).mono ?_; rintro e w4 ⟨v4, rfl, ho4, hb4⟩
         obtain ⟨ws, hws⟩ : ∃ ws, ws = cut 38 sx.data.toList := ⟨_, rfl⟩
         have hne : ws ≠ [] := by rw [hws]; exact cut_ne _ _
         rw [← hws] at ho4
         have HWS : Hid (ws = cut 38 (((c :: l').drop 1).take (av - 1))) := Lib.hid (by rw [hws, HSX.out]; exact congrArg (cut 38) (take_of (c :: l') 1 av))
         clear hws
         have hpos : 0 < ws.length := List.length_pos_iff.2 hne
         obtain ⟨A4, n4, c4, rfl, hA4⟩ := SlA.of_own ho4 (strs_len ws) (strs_rows ws)
         obtain rfl : n4 = ws.length := by have := hA4.len; rw [strs_len] at this; exact this.symm
         have hc4 := hA4.cap
         have hm4 := hA4.max
         unfold maxLen at hm4
         have S4 := Lib.hid (S3.out.next hb4)
         obtain ⟨b1, o1, l0, rfl, hbl1, hl0, hcell0⟩ := strs_get hA4 (k := 0) hpos
         have k0 := hcell0 w4 _ (Below.refl _ _) hbl1
         rw [Nat.add_zero] at k0
         have HA4 := Lib.hid hA4
         have HO4 := Lib.hid ho4
         clear hcell0 hb4 ho4 hA4 y3 q3
         go_wp2_with fail
         refine (l2Num_any _ w4).mono ?_; rintro e w5 ⟨rfl, rfl⟩
         obtain ⟨n0, hn0⟩ : ∃ n0, n0 = numOf (⟨l0.toArray⟩ : ByteArray).data.toList := ⟨_, rfl⟩
         rw [← hn0]
         have HN0 : Hid (n0 = numOf l0) := Lib.hid hn0
         clear hn0
         have y0 := (show _ = some (Value.int .i64 0) from S4.out.test.cell 0); have q0 := S4.out.test.frozen 0
         have S5 := Lib.hid (S4.out.set 0 n0 n0 4294967295 op n3 rfl)
         obtain ⟨W5, hW5⟩ : ∃ W, W = w4.setCell ⟨w.heap.size + 1, 0, none⟩ (.int .i64 n0) := ⟨_, rfl⟩
         have HO5 : Hid (W5.ownsRow W3.heap.size 9 1 (.slice (some ⟨b1, o1, none⟩) ws.length c4) ws.length (strs ws).flatten) := by rw [hW5]; exact Lib.hid (own_lowsetS HO4.out S3.out.test.lt)
         rw [← hW5] at S5
         have HW5 := Lib.hid hW5
         clear hW5 k0
         go_upto_region 17 with (fail)
         rw [← HW5.out]
         clear y0 q0
         by_cases h2 : ws.length = 2
         · have h2i : (ws.length : Int) = 2 := by omega
           have h2d : ((ws.length : Int) == 2) = true := by simp; omega
           obtain ⟨A5, n5, c5, e5, hA5⟩ := SlA.of_own HO5.out (strs_len ws) (strs_rows ws)
           obtain ⟨rfl, rfl, rfl⟩ : some (⟨b1, o1, none⟩ : Addr) = A5 ∧ ws.length = n5 ∧ c4 = c5 := by simpa using e5
           obtain ⟨b2, o2, l1, e2, hbl2, hl1, hcell1⟩ := strs_get hA5 (k := 1) (by omega)
           obtain ⟨rfl, rfl⟩ : b1 = b2 ∧ o1 = o2 := by simpa using e2
           have k1 := hcell1 W5 _ (Below.refl _ _) hbl2
           have h1i : (1 : Int) < ws.length := by omega
           clear hcell1 hA5 e5 e2
           go_wp2_with fail
           refine (l2Num_any _ W5).mono ?_; rintro e w6 ⟨rfl, rfl⟩
           obtain ⟨n1, hn1⟩ : ∃ n1, n1 = numOf (⟨l1.toArray⟩ : ByteArray).data.toList := ⟨_, rfl⟩
           rw [← hn1]
           have HN1 : Hid (n1 = numOf l1) := Lib.hid hn1
           clear hn1 k1
           have y1 := (show _ = some (Value.int .i64 4294967295) from S5.out.test.cell 1); have q1 := S5.out.test.frozen 1
           have S6 := Lib.hid (S5.out.set 1 n1 n0 n1 op n3 rfl)
           obtain ⟨W6, hW6⟩ : ∃ W, W = W5.setCell ⟨w.heap.size + 1, 1, none⟩ (.int .i64 n1) := ⟨_, rfl⟩
           rw [← hW6] at S6
           have HW6 := Lib.hid hW6
           clear hW6
           go_upto_region 19 with (fail)
           rw [← HW6.out]
           clear y1 q1
           have y0 := (show W6.cell? ⟨w.heap.size + 1, 0, none⟩ = some (Value.int .i64 n0) from S6.out.test.cell 0); have y1 := (show W6.cell? ⟨w.heap.size + 1, 1, none⟩ = some (Value.int .i64 n1) from S6.out.test.cell 1); have y2 := (show W6.cell? ⟨w.heap.size + 1, 2, none⟩ = some (Value.int .i64 op) from S6.out.test.cell 2); have y3 := (show W6.cell? ⟨w.heap.size + 1, 3, none⟩ = some (Value.int .i64 n3) from S6.out.test.cell 3)
           have r0 := (show W6.cell? ⟨w.heap.size, 0, none⟩ = some (Value.int .i64 0) from S6.out.res.cell 0); have r1 := (show W6.cell? ⟨w.heap.size, 1, none⟩ = some (Value.int .i64 0) from S6.out.res.cell 1); have r2 := (show W6.cell? ⟨w.heap.size, 2, none⟩ = some (Value.int .i64 0) from S6.out.res.cell 2); have r3 := (show W6.cell? ⟨w.heap.size, 3, none⟩ = some (Value.int .i64 0) from S6.out.res.cell 3)
           have rf0 := S6.out.res.frozen 0; have rf1 := S6.out.res.frozen 1; have rf2 := S6.out.res.frozen 2; have rf3 := S6.out.res.frozen 3
           have HFIN := Lib.hid ((((S6.out.below.setCell (p := ⟨w.heap.size, 0, none⟩) (Nat.le_refl _) (.int .i64 n0)).setCell (p := ⟨w.heap.size, 1, none⟩) (Nat.le_refl _) (.int .i64 n1)).setCell (p := ⟨w.heap.size, 2, none⟩) (Nat.le_refl _) (.int .i64 op)).setCell (p := ⟨w.heap.size, 3, none⟩) (Nat.le_refl _) (.int .i64 n3))
           go_wp2
           refine bodyPost_ret (v := .agg #[.int .i64 n0, .int .i64 n1, .int .i64 op, .int .i64 n3]) (by simp [results, Tryz.results51, go_sem, r0, r1, r2, r3]) rfl ?_
           exact test_fin (WishO.two HWO.out (by omega) HWS.out hl0 HN0.out hl1 HN1.out HN3.out h2) HFIN.out
         · have h2d : ((ws.length : Int) == 2) = false := by simp; omega
           have y0 := (show W5.cell? ⟨w.heap.size + 1, 0, none⟩ = some (Value.int .i64 n0) from S5.out.test.cell 0); have y1 := (show W5.cell? ⟨w.heap.size + 1, 1, none⟩ = some (Value.int .i64 4294967295) from S5.out.test.cell 1); have y2 := (show W5.cell? ⟨w.heap.size + 1, 2, none⟩ = some (Value.int .i64 op) from S5.out.test.cell 2); have y3 := (show W5.cell? ⟨w.heap.size + 1, 3, none⟩ = some (Value.int .i64 n3) from S5.out.test.cell 3)
           have r0 := (show W5.cell? ⟨w.heap.size, 0, none⟩ = some (Value.int .i64 0) from S5.out.res.cell 0); have r1 := (show W5.cell? ⟨w.heap.size, 1, none⟩ = some (Value.int .i64 0) from S5.out.res.cell 1); have r2 := (show W5.cell? ⟨w.heap.size, 2, none⟩ = some (Value.int .i64 0) from S5.out.res.cell 2); have r3 := (show W5.cell? ⟨w.heap.size, 3, none⟩ = some (Value.int .i64 0) from S5.out.res.cell 3)
           have rf0 := S5.out.res.frozen 0; have rf1 := S5.out.res.frozen 1; have rf2 := S5.out.res.frozen 2; have rf3 := S5.out.res.frozen 3
           have HFIN := Lib.hid ((((S5.out.below.setCell (p := ⟨w.heap.size, 0, none⟩) (Nat.le_refl _) (.int .i64 n0)).setCell (p := ⟨w.heap.size, 1, none⟩) (Nat.le_refl _) (.int .i64 4294967295)).setCell (p := ⟨w.heap.size, 2, none⟩) (Nat.le_refl _) (.int .i64 op)).setCell (p := ⟨w.heap.size, 3, none⟩) (Nat.le_refl _) (.int .i64 n3))
           go_wp2
           refine bodyPost_ret (v := .agg #[.int .i64 n0, .int .i64 4294967295, .int .i64 op, .int .i64 n3]) (by simp [results, Tryz.results51, go_sem, r0, r1, r2, r3]) rfl ?_
           exact test_fin (WishO.one HWO.out (by omega) HWS.out hl0 HN0.out HN3.out h2) HFIN.out
       · have hcd : ((c.toNat : Int) != 97) = true := by
           simp only [bne_iff_ne, ne_eq]
           intro e
           have h97 : c.toNat = 97 := by omega
           exact hc (UInt8.toNat_inj.1 (h97.trans rfl))
         have y0 := (show wr.cell? ⟨w.heap.size + 1, 0, none⟩ = some (Value.int .i64 0) from HT.out.test.cell 0); have y1 := (show wr.cell? ⟨w.heap.size + 1, 1, none⟩ = some (Value.int .i64 4294967295) from HT.out.test.cell 1); have y2 := (show wr.cell? ⟨w.heap.size + 1, 2, none⟩ = some (Value.int .i64 op) from HT.out.test.cell 2); have y3 := (show wr.cell? ⟨w.heap.size + 1, 3, none⟩ = some (Value.int .i64 (-1)) from HT.out.test.cell 3)
         have r0 := (show wr.cell? ⟨w.heap.size, 0, none⟩ = some (Value.int .i64 0) from HT.out.res.cell 0); have r1 := (show wr.cell? ⟨w.heap.size, 1, none⟩ = some (Value.int .i64 0) from HT.out.res.cell 1); have r2 := (show wr.cell? ⟨w.heap.size, 2, none⟩ = some (Value.int .i64 0) from HT.out.res.cell 2); have r3 := (show wr.cell? ⟨w.heap.size, 3, none⟩ = some (Value.int .i64 0) from HT.out.res.cell 3)
         have rf0 := HT.out.res.frozen 0; have rf1 := HT.out.res.frozen 1; have rf2 := HT.out.res.frozen 2; have rf3 := HT.out.res.frozen 3
         have HFIN := Lib.hid ((((HT.out.below.setCell (p := ⟨w.heap.size, 0, none⟩) (Nat.le_refl _) (.int .i64 0)).setCell (p := ⟨w.heap.size, 1, none⟩) (Nat.le_refl _) (.int .i64 4294967295)).setCell (p := ⟨w.heap.size, 2, none⟩) (Nat.le_refl _) (.int .i64 op)).setCell (p := ⟨w.heap.size, 3, none⟩) (Nat.le_refl _) (.int .i64 (-1)))
         go_wp2
         all_goals
           refine bodyPost_ret (v := .agg #[.int .i64 0, .int .i64 4294967295, .int .i64 op, .int .i64 (-1)]) (by simp [results, Tryz.results51, go_sem, r0, r1, r2, r3]) rfl ?_
           first | exact test_fin (fun t' ht hl => absurd (word_head hl rfl) hc) HFIN.out | exact test_fin (fun t' ht hl => (HWO.out.none (by omega) t' ht hl).elim) HFIN.out
     · have hki : ¬ (k : Int) < l.length := by omega
       by_cases hav0 : av = 0
       · subst hav0
         have y0 := (show wr.cell? ⟨w.heap.size + 1, 0, none⟩ = some (Value.int .i64 0) from HT.out.test.cell 0); have y1 := (show wr.cell? ⟨w.heap.size + 1, 1, none⟩ = some (Value.int .i64 4294967295) from HT.out.test.cell 1); have y2 := (show wr.cell? ⟨w.heap.size + 1, 2, none⟩ = some (Value.int .i64 op) from HT.out.test.cell 2); have y3 := (show wr.cell? ⟨w.heap.size + 1, 3, none⟩ = some (Value.int .i64 (-1)) from HT.out.test.cell 3)
         have r0 := (show wr.cell? ⟨w.heap.size, 0, none⟩ = some (Value.int .i64 0) from HT.out.res.cell 0); have r1 := (show wr.cell? ⟨w.heap.size, 1, none⟩ = some (Value.int .i64 0) from HT.out.res.cell 1); have r2 := (show wr.cell? ⟨w.heap.size, 2, none⟩ = some (Value.int .i64 0) from HT.out.res.cell 2); have r3 := (show wr.cell? ⟨w.heap.size, 3, none⟩ = some (Value.int .i64 0) from HT.out.res.cell 3)
         have rf0 := HT.out.res.frozen 0; have rf1 := HT.out.res.frozen 1; have rf2 := HT.out.res.frozen 2; have rf3 := HT.out.res.frozen 3
         have HFIN := Lib.hid ((((HT.out.below.setCell (p := ⟨w.heap.size, 0, none⟩) (Nat.le_refl _) (.int .i64 0)).setCell (p := ⟨w.heap.size, 1, none⟩) (Nat.le_refl _) (.int .i64 4294967295)).setCell (p := ⟨w.heap.size, 2, none⟩) (Nat.le_refl _) (.int .i64 op)).setCell (p := ⟨w.heap.size, 3, none⟩) (Nat.le_refl _) (.int .i64 (-1)))
         go_wp2
         refine bodyPost_ret (v := .agg #[.int .i64 0, .int .i64 4294967295, .int .i64 op, .int .i64 (-1)]) (by simp [results, Tryz.results51, go_sem, r0, r1, r2, r3]) rfl ?_
         first | exact test_fin (fun t' ht hl => absurd (word_head hl rfl) hc) HFIN.out | exact test_fin (fun t' ht hl => (HWO.out.none (by omega) t' ht hl).elim) HFIN.out
       · have hal0 := hav0
         have hal : av < l.length := by omega
         have ha0 : ((av : Int) == 0) = false := by simp; omega
         have hali : (av : Int) + 1 ≤ l.length := by omega
         have hl0 : (0 : Int) < l.length := by omega
         obtain ⟨c, l', rfl⟩ : ∃ c l', l = c :: l' := by cases l with | nil => simp at hal | cons c l' => exact ⟨c, l', rfl⟩
         have hki2 : ¬ (k : Int) < (l'.length : Int) + 1 := by simp at hkl; omega
         have hal2 : (av : Int) ≤ l'.length := by simp at hal; omega
         have hal3 : av ≤ l'.length := by simp at hal; omega
         have hav1 : (1 : Int) ≤ av := by omega
         have hg0 : ∀ h : 0 < (⟨(c :: l').toArray⟩ : ByteArray).size, (⟨(c :: l').toArray⟩ : ByteArray)[0]'h = c := fun _ => rfl
         by_cases hc : c = 97
         · have hcd : ((c.toNat : Int) != 97) = false := by rw [hc]; rfl
           clear hc
           go_wp2_with fail
           refine (l2Num_any _ wr).mono ?_; rintro e w1 ⟨rfl, rfl⟩
           obtain ⟨n3, hn3⟩ : ∃ n3, n3 = numOf ((⟨(c :: l').toArray⟩ : ByteArray).extract (av + 1) (l'.length + 1)).data.toList := ⟨_, rfl⟩
           rw [← hn3]
           have HN3 : Hid (n3 = numOf ((c :: l').drop (av + 1))) := Lib.hid (by rw [hn3]; exact congrArg numOf (drop_of (c :: l') (av + 1)))
           clear hn3
           have y3 := (show _ = some (Value.int .i64 (-1)) from HT.out.test.cell 3); have q3 := HT.out.test.frozen 3
           have S3 := Lib.hid (HT.out.set 3 n3 0 4294967295 op n3 rfl)
           obtain ⟨W3, hW3⟩ : ∃ W, W = wr.setCell ⟨w.heap.size + 1, 3, none⟩ (.int .i64 n3) := ⟨_, rfl⟩
           rw [← hW3] at S3
           have HW3 := Lib.hid hW3
           clear hW3
           have hsx : ((⟨(c :: l').toArray⟩ : ByteArray).extract 1 av).size ≤ 16777216 := by
             rw [ByteArray.size_extract]
             have : (⟨(c :: l').toArray⟩ : ByteArray).size = l'.length + 1 := rfl
             simp at hs
             omega
           obtain ⟨sx, hsx'⟩ : ∃ sx, sx = (⟨(c :: l').toArray⟩ : ByteArray).extract 1 av := ⟨_, rfl⟩
           have HSX := Lib.hid hsx'
           rw [← hsx'] at hsx
           clear hsx'
           go_wp2_with (first | rw [← HW3.out, ← HSX.out] | rw [← HW3.out])
           try rw [← HSX.out]
           refine (show Calls Tryz.prog 24 #[.string sx, .int .u8 38] W3 _ from (l2Cut_any sx 38 W3 hsx)).mono ?_; rintro e w4 ⟨v4, rfl, ho4, hb4⟩
           obtain ⟨ws, hws⟩ : ∃ ws, ws = cut 38 sx.data.toList := ⟨_, rfl⟩
           have hne : ws ≠ [] := by rw [hws]; exact cut_ne _ _
           rw [← hws] at ho4
           have HWS : Hid (ws = cut 38 (((c :: l').drop 1).take (av - 1))) := Lib.hid (by rw [hws, HSX.out]; exact congrArg (cut 38) (take_of (c :: l') 1 av))
           clear hws
           have hpos : 0 < ws.length := List.length_pos_iff.2 hne
           obtain ⟨A4, n4, c4, rfl, hA4⟩ := SlA.of_own ho4 (strs_len ws) (strs_rows ws)
           obtain rfl : n4 = ws.length := by have := hA4.len; rw [strs_len] at this; exact this.symm
           have hc4 := hA4.cap
           have hm4 := hA4.max
           unfold maxLen at hm4
           have S4 := Lib.hid (S3.out.next hb4)
           obtain ⟨b1, o1, l0, rfl, hbl1, hl0, hcell0⟩ := strs_get hA4 (k := 0) hpos
           have k0 := hcell0 w4 _ (Below.refl _ _) hbl1
           rw [Nat.add_zero] at k0
           have HA4 := Lib.hid hA4
           have HO4 := Lib.hid ho4
           clear hcell0 hb4 ho4 hA4 y3 q3
           go_wp2_with fail
           refine (l2Num_any _ w4).mono ?_; rintro e w5 ⟨rfl, rfl⟩
           obtain ⟨n0, hn0⟩ : ∃ n0, n0 = numOf (⟨l0.toArray⟩ : ByteArray).data.toList := ⟨_, rfl⟩
           rw [← hn0]
           have HN0 : Hid (n0 = numOf l0) := Lib.hid hn0
           clear hn0
           have y0 := (show _ = some (Value.int .i64 0) from S4.out.test.cell 0); have q0 := S4.out.test.frozen 0
           have S5 := Lib.hid (S4.out.set 0 n0 n0 4294967295 op n3 rfl)
           obtain ⟨W5, hW5⟩ : ∃ W, W = w4.setCell ⟨w.heap.size + 1, 0, none⟩ (.int .i64 n0) := ⟨_, rfl⟩
           have HO5 : Hid (W5.ownsRow W3.heap.size 9 1 (.slice (some ⟨b1, o1, none⟩) ws.length c4) ws.length (strs ws).flatten) := by rw [hW5]; exact Lib.hid (own_lowsetS HO4.out S3.out.test.lt)
           rw [← hW5] at S5
           have HW5 := Lib.hid hW5
           clear hW5 k0
           go_upto_region 17 with (fail)
           rw [← HW5.out]
           clear y0 q0
           by_cases h2 : ws.length = 2
           · have h2i : (ws.length : Int) = 2 := by omega
             have h2d : ((ws.length : Int) == 2) = true := by simp; omega
             obtain ⟨A5, n5, c5, e5, hA5⟩ := SlA.of_own HO5.out (strs_len ws) (strs_rows ws)
             obtain ⟨rfl, rfl, rfl⟩ : some (⟨b1, o1, none⟩ : Addr) = A5 ∧ ws.length = n5 ∧ c4 = c5 := by simpa using e5
             obtain ⟨b2, o2, l1, e2, hbl2, hl1, hcell1⟩ := strs_get hA5 (k := 1) (by omega)
             obtain ⟨rfl, rfl⟩ : b1 = b2 ∧ o1 = o2 := by simpa using e2
             have k1 := hcell1 W5 _ (Below.refl _ _) hbl2
             have h1i : (1 : Int) < ws.length := by omega
             clear hcell1 hA5 e5 e2
             go_wp2_with fail
             refine (l2Num_any _ W5).mono ?_; rintro e w6 ⟨rfl, rfl⟩
             obtain ⟨n1, hn1⟩ : ∃ n1, n1 = numOf (⟨l1.toArray⟩ : ByteArray).data.toList := ⟨_, rfl⟩
             rw [← hn1]
             have HN1 : Hid (n1 = numOf l1) := Lib.hid hn1
             clear hn1 k1
             have y1 := (show _ = some (Value.int .i64 4294967295) from S5.out.test.cell 1); have q1 := S5.out.test.frozen 1
             have S6 := Lib.hid (S5.out.set 1 n1 n0 n1 op n3 rfl)
             obtain ⟨W6, hW6⟩ : ∃ W, W = W5.setCell ⟨w.heap.size + 1, 1, none⟩ (.int .i64 n1) := ⟨_, rfl⟩
             rw [← hW6] at S6
             have HW6 := Lib.hid hW6
             clear hW6
             go_upto_region 19 with (fail)
             rw [← HW6.out]
             clear y1 q1
             have y0 := (show W6.cell? ⟨w.heap.size + 1, 0, none⟩ = some (Value.int .i64 n0) from S6.out.test.cell 0); have y1 := (show W6.cell? ⟨w.heap.size + 1, 1, none⟩ = some (Value.int .i64 n1) from S6.out.test.cell 1); have y2 := (show W6.cell? ⟨w.heap.size + 1, 2, none⟩ = some (Value.int .i64 op) from S6.out.test.cell 2); have y3 := (show W6.cell? ⟨w.heap.size + 1, 3, none⟩ = some (Value.int .i64 n3) from S6.out.test.cell 3)
             have r0 := (show W6.cell? ⟨w.heap.size, 0, none⟩ = some (Value.int .i64 0) from S6.out.res.cell 0); have r1 := (show W6.cell? ⟨w.heap.size, 1, none⟩ = some (Value.int .i64 0) from S6.out.res.cell 1); have r2 := (show W6.cell? ⟨w.heap.size, 2, none⟩ = some (Value.int .i64 0) from S6.out.res.cell 2); have r3 := (show W6.cell? ⟨w.heap.size, 3, none⟩ = some (Value.int .i64 0) from S6.out.res.cell 3)
             have rf0 := S6.out.res.frozen 0; have rf1 := S6.out.res.frozen 1; have rf2 := S6.out.res.frozen 2; have rf3 := S6.out.res.frozen 3
             have HFIN := Lib.hid ((((S6.out.below.setCell (p := ⟨w.heap.size, 0, none⟩) (Nat.le_refl _) (.int .i64 n0)).setCell (p := ⟨w.heap.size, 1, none⟩) (Nat.le_refl _) (.int .i64 n1)).setCell (p := ⟨w.heap.size, 2, none⟩) (Nat.le_refl _) (.int .i64 op)).setCell (p := ⟨w.heap.size, 3, none⟩) (Nat.le_refl _) (.int .i64 n3))
             go_wp2
             refine bodyPost_ret (v := .agg #[.int .i64 n0, .int .i64 n1, .int .i64 op, .int .i64 n3]) (by simp [results, Tryz.results51, go_sem, r0, r1, r2, r3]) rfl ?_
             exact test_fin (WishO.two HWO.out (by omega) HWS.out hl0 HN0.out hl1 HN1.out HN3.out h2) HFIN.out
           · have h2d : ((ws.length : Int) == 2) = false := by simp; omega
             have y0 := (show W5.cell? ⟨w.heap.size + 1, 0, none⟩ = some (Value.int .i64 n0) from S5.out.test.cell 0); have y1 := (show W5.cell? ⟨w.heap.size + 1, 1, none⟩ = some (Value.int .i64 4294967295) from S5.out.test.cell 1); have y2 := (show W5.cell? ⟨w.heap.size + 1, 2, none⟩ = some (Value.int .i64 op) from S5.out.test.cell 2); have y3 := (show W5.cell? ⟨w.heap.size + 1, 3, none⟩ = some (Value.int .i64 n3) from S5.out.test.cell 3)
             have r0 := (show W5.cell? ⟨w.heap.size, 0, none⟩ = some (Value.int .i64 0) from S5.out.res.cell 0); have r1 := (show W5.cell? ⟨w.heap.size, 1, none⟩ = some (Value.int .i64 0) from S5.out.res.cell 1); have r2 := (show W5.cell? ⟨w.heap.size, 2, none⟩ = some (Value.int .i64 0) from S5.out.res.cell 2); have r3 := (show W5.cell? ⟨w.heap.size, 3, none⟩ = some (Value.int .i64 0) from S5.out.res.cell 3)
             have rf0 := S5.out.res.frozen 0; have rf1 := S5.out.res.frozen 1; have rf2 := S5.out.res.frozen 2; have rf3 := S5.out.res.frozen 3
             have HFIN := Lib.hid ((((S5.out.below.setCell (p := ⟨w.heap.size, 0, none⟩) (Nat.le_refl _) (.int .i64 n0)).setCell (p := ⟨w.heap.size, 1, none⟩) (Nat.le_refl _) (.int .i64 4294967295)).setCell (p := ⟨w.heap.size, 2, none⟩) (Nat.le_refl _) (.int .i64 op)).setCell (p := ⟨w.heap.size, 3, none⟩) (Nat.le_refl _) (.int .i64 n3))
             go_wp2
             refine bodyPost_ret (v := .agg #[.int .i64 n0, .int .i64 4294967295, .int .i64 op, .int .i64 n3]) (by simp [results, Tryz.results51, go_sem, r0, r1, r2, r3]) rfl ?_
             exact test_fin (WishO.one HWO.out (by omega) HWS.out hl0 HN0.out HN3.out h2) HFIN.out
         · have hcd : ((c.toNat : Int) != 97) = true := by
             simp only [bne_iff_ne, ne_eq]
             intro e
             have h97 : c.toNat = 97 := by omega
             exact hc (UInt8.toNat_inj.1 (h97.trans rfl))
           have y0 := (show wr.cell? ⟨w.heap.size + 1, 0, none⟩ = some (Value.int .i64 0) from HT.out.test.cell 0); have y1 := (show wr.cell? ⟨w.heap.size + 1, 1, none⟩ = some (Value.int .i64 4294967295) from HT.out.test.cell 1); have y2 := (show wr.cell? ⟨w.heap.size + 1, 2, none⟩ = some (Value.int .i64 op) from HT.out.test.cell 2); have y3 := (show wr.cell? ⟨w.heap.size + 1, 3, none⟩ = some (Value.int .i64 (-1)) from HT.out.test.cell 3)
           have r0 := (show wr.cell? ⟨w.heap.size, 0, none⟩ = some (Value.int .i64 0) from HT.out.res.cell 0); have r1 := (show wr.cell? ⟨w.heap.size, 1, none⟩ = some (Value.int .i64 0) from HT.out.res.cell 1); have r2 := (show wr.cell? ⟨w.heap.size, 2, none⟩ = some (Value.int .i64 0) from HT.out.res.cell 2); have r3 := (show wr.cell? ⟨w.heap.size, 3, none⟩ = some (Value.int .i64 0) from HT.out.res.cell 3)
           have rf0 := HT.out.res.frozen 0; have rf1 := HT.out.res.frozen 1; have rf2 := HT.out.res.frozen 2; have rf3 := HT.out.res.frozen 3
           have HFIN := Lib.hid ((((HT.out.below.setCell (p := ⟨w.heap.size, 0, none⟩) (Nat.le_refl _) (.int .i64 0)).setCell (p := ⟨w.heap.size, 1, none⟩) (Nat.le_refl _) (.int .i64 4294967295)).setCell (p := ⟨w.heap.size, 2, none⟩) (Nat.le_refl _) (.int .i64 op)).setCell (p := ⟨w.heap.size, 3, none⟩) (Nat.le_refl _) (.int .i64 (-1)))
           go_wp2
           all_goals
             refine bodyPost_ret (v := .agg #[.int .i64 0, .int .i64 4294967295, .int .i64 op, .int .i64 (-1)]) (by simp [results, Tryz.results51, go_sem, r0, r1, r2, r3]) rfl ?_
             first | exact test_fin (fun t' ht hl => absurd (word_head hl rfl) hc) HFIN.out | exact test_fin (fun t' ht hl => (HWO.out.none (by omega) t' ht hl).elim) HFIN.out
end Go.Proofs.YtdjgicapbpoigaaGreatDoor
