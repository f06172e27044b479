/- Joined texts: SrdV SrdR SrdP. -/
import Derived.Test.YtcomdkmglihdbaaGreatDoorTxt
import Derived.Test.YtcomdkmglihdbaaGreatDoorPolSA
import Derived.Deep.CutBlock
import Derived.Test.YtcomdkmglihdbaaGreatDoorDrawPol2
import Derived.Test.YtcomdkmglihdbaaGreatDoorRelA
import Derived.Test.YtcomdkmglihdbaaGreatDoorCodeS3
-- spec's reader of policies on any text: verdicts and tests.
namespace Go.Proofs.YtcomdkmglihdbaaGreatDoor
open Go.RowKit
set_option linter.unusedSimpArgs false
set_option linter.unusedVariables false

theorem rdVerdict_any (l : List UInt8) (w : World) :
    Calls Tryz.prog 88 #[.string ⟨l.toArray⟩] w fun e w' => ∃ v : Int, e = .returned (.int .i64 v) ∧ ((0 ≤ v ∧ v ≤ 4) ∧ (v ≠ 0 → verdNm v = l)) ∧ Below w.heap.size w w' := by
  go_enter Tryz.func88, Tryz.ntmps88
  go_wp2
  go_loopw [3] (fun i wr => ∃ k : Nat, 1 ≤ k ∧ k ≤ 5 ∧ i = .int .i64 k ∧ Below w.heap.size w wr) (fun i _ => 5 - (intOf i).toNat)
  case atStart => exact ⟨1, by omega, by omega, rfl, Below.refl _ _⟩
  case round =>
    obtain ⟨k, hk1, hk5, rfl, hb⟩ := hrel
    by_cases hlt : k ≤ 4
    · have hki : (k : Int) ≤ 4 := by omega
      go_wp2_with fail
      refine (l2Word_any (k : Int) wr ⟨by omega, by omega⟩).mono ?_; rintro e w1 ⟨rfl, hb1⟩
      have HB := Lib.hid (below_then hb hb1)
      clear hb hb1
      by_cases he : verdNm k = l
      · have hd : (verdNm k == l) = true := by simp [he]
        have HE := Lib.hid he
        clear he
        go_wp2
        go_ret
        exact ⟨k, rfl, ⟨⟨by omega, hki⟩, fun _ => HE.out⟩, HB.out⟩
      · have hd : (verdNm k == l) = false := by simpa using he
        clear he
        go_wp2
        exact ⟨⟨k + 1, by omega, by omega, by go_num, HB.out⟩, by simp [intOf]; omega⟩
    · have hki : ¬ (k : Int) ≤ 4 := by omega
      go_wp2
      go_ret
      exact ⟨0, rfl, ⟨⟨by omega, by omega⟩, fun h => absurd rfl h⟩, hb⟩
abbrev TStrS : TypeId := 9
abbrev TTestS : TypeId := 127
/-- How the memory stands while a test is read. -/
structure TT (w wr : World) (tb : Nat) (a b c d : Int) : Prop where
  test : Blk wr tb TTestS #[.int .i64 a, .int .i64 b, .int .i64 c, .int .i64 d]
  res : Blk wr w.heap.size TTestS #[.int .i64 0, .int .i64 0, .int .i64 0, .int .i64 0]
  below : Below w.heap.size w wr
  after : w.heap.size < tb
theorem TT.next {w wr w' : World} {tb : Nat} {a b c d : Int} (h : TT w wr tb a b c d) (hb : Below wr.heap.size wr w') : TT w w' tb a b c d :=
  ⟨h.test.below hb h.test.lt, h.res.below hb h.res.lt, below_then h.below hb, h.after⟩
theorem TT.set {w wr : World} {tb : Nat} {a b c d : Int} (h : TT w wr tb a b c d) (i : Nat) (x a' b' c' d' : Int) (e : (#[Value.int .i64 a, .int .i64 b, .int .i64 c, .int .i64 d]).setIfInBounds i (.int .i64 x) = #[.int .i64 a', .int .i64 b', .int .i64 c', .int .i64 d']) : TT w (wr.setCell ⟨tb, i, none⟩ (.int .i64 x)) tb a' b' c' d' :=
  ⟨by rw [← e]; exact h.test.set_ i _, h.res.far (show w.heap.size ≠ tb by have := h.after; omega) _, h.below.setCell (p := ⟨tb, i, none⟩) (Nat.le_of_lt h.after) _, h.after⟩
theorem TT.end_ {w wr : World} {tb : Nat} {a b c d : Int} (h : TT w wr tb a b c d) (i : Nat) (v : Value) : Below w.heap.size w (wr.setCell ⟨w.heap.size, i, none⟩ v) := h.below.setCell (p := ⟨w.heap.size, i, none⟩) (Nat.le_refl _) v
theorem own_lowsetS {w : World} {base n size rb i : Nat} {e : TypeId} {v x : Value} {xs : List Value} (h : w.ownsRow base e size v n xs) (hb : rb < base) : (w.setCell ⟨rb, i, none⟩ x).ownsRow base e size v n xs :=
  h.kept (grown_set w rb i x) (by
    rcases ho : v.ownBlock with _ | b
    · exact .inl rfl
    · exact .inr (by have := (h.lt b ho).1; intro e; cases e; omega))
set_option maxHeartbeats 8000000 in
theorem rdTest_any (l : List UInt8) (w : World) (hs : l.length ≤ 1048576) :
    Calls Tryz.prog 105 #[.string ⟨l.toArray⟩] w fun e w' => ∃ t : Ts, e = .returned (.agg #[.int .i64 t.field, .int .i64 t.mask, .int .i64 t.op, .int .i64 t.value]) ∧ Below w.heap.size w w' := by
  obtain ⟨W2, hW2⟩ : ∃ W, W = (w.alloc (.cells #[.int .i64 0, .int .i64 0, .int .i64 0, .int .i64 0] TTestS)).alloc (.cells #[.int .i64 0, .int .i64 4294967295, .int .i64 0, .int .i64 (-1)] TTestS) := ⟨_, rfl⟩
  have T2 : Hid (TT w W2 (w.heap.size + 1) 0 4294967295 0 (-1)) := by
    rw [hW2]
    have h1 := Blk.new (w.alloc (.cells #[.int .i64 0, .int .i64 0, .int .i64 0, .int .i64 0] TTestS)) TTestS #[.int .i64 0, .int .i64 4294967295, .int .i64 0, .int .i64 (-1)]
    exact Lib.hid ⟨by simpa using h1, (Blk.new _ _ _).alloc _, by go_grown, Nat.lt_succ_self _⟩
  have HW2 := Lib.hid hW2
  clear hW2
  go_enter Tryz.func105, Tryz.ntmps105
  go_wp2
  rw [← HW2.out]
  go_loopw [4, 5] (fun a i wr => ∃ (av k : Nat) (op : Int), a = .int .i64 av ∧ i = .int .i64 k ∧ k ≤ l.length ∧ (av = 0 ∨ av < l.length) ∧ Hid (TT w wr (w.heap.size + 1) 0 4294967295 op (-1))) (fun _ i _ => l.length - (intOf i).toNat)
  case atStart => exact ⟨0, 0, 0, rfl, rfl, by omega, .inl rfl, T2⟩
  case round =>
    obtain ⟨av, k, op, rfl, rfl, hk, hav, HT⟩ := hrel
    clear T2
    by_cases hgo : k < l.length ∧ av = 0
    · obtain ⟨hlt, rfl⟩ := hgo
      have hki : (k : Int) < l.length := by omega
      go_wp2_with fail
      obtain ⟨y, hx⟩ : ∃ y : List UInt8, (⟨l.toArray⟩ : ByteArray).extract k (k + 1) = ⟨y.toArray⟩ := ⟨((⟨l.toArray⟩ : ByteArray).extract k (k + 1)).data.toList, rfl⟩
      go_loopw [4, 6] (fun a kk wx => ∃ (av kv : Nat) (op' : Int), a = .int .i64 av ∧ kk = .int .i64 kv ∧ 1 ≤ kv ∧ kv ≤ 4 ∧ (av = 0 ∨ av < l.length) ∧ Hid (TT w wx (w.heap.size + 1) 0 4294967295 op' (-1))) (fun _ kk _ => 4 - (intOf kk).toNat)
      case atStart => exact ⟨0, 1, op, rfl, rfl, by omega, by omega, .inl rfl, HT⟩
      case round =>
        clear HT
        obtain ⟨av, kv, op', rfl, rfl, hk1, hk4, hav2, HT⟩ := hrel
        by_cases hkv : kv ≤ 3
        · have hz := HT.out.test.lt
          obtain rfl | rfl | rfl : kv = 1 ∨ kv = 2 ∨ kv = 3 := by omega
          · cases he : (y == [61]) with
            | true =>
              have y2 := (show _ = some (Value.int .i64 op') from HT.out.test.cell 2); have q2 := HT.out.test.frozen 2
              go_wp2
              go_region
              all_goals go_wp2
              all_goals exact ⟨⟨k, 2, 1, rfl, rfl, by omega, by omega, .inr hlt, Lib.hid (by first | exact (HT.out.next (by go_grown)).set 2 1 0 4294967295 1 (-1) rfl | exact (HT.out.set 2 1 0 4294967295 1 (-1) rfl).next (by go_grown))⟩, by simp [intOf]⟩
            | false =>
              go_wp2
              go_region
              all_goals go_wp2
              all_goals exact ⟨⟨av, 2, op', rfl, rfl, by omega, by omega, hav2, Lib.hid (HT.out.next (by go_grown))⟩, by simp [intOf]⟩
          · cases he : (y == [60]) with
            | true =>
              have y2 := (show _ = some (Value.int .i64 op') from HT.out.test.cell 2); have q2 := HT.out.test.frozen 2
              go_wp2
              go_region
              all_goals go_wp2
              all_goals exact ⟨⟨k, 3, 2, rfl, rfl, by omega, by omega, .inr hlt, Lib.hid (by first | exact (HT.out.next (by go_grown)).set 2 2 0 4294967295 2 (-1) rfl | exact (HT.out.set 2 2 0 4294967295 2 (-1) rfl).next (by go_grown))⟩, by simp [intOf]⟩
            | false =>
              go_wp2
              go_region
              all_goals go_wp2
              all_goals exact ⟨⟨av, 3, op', rfl, rfl, by omega, by omega, hav2, Lib.hid (HT.out.next (by go_grown))⟩, by simp [intOf]⟩
          · cases he : (y == [62]) with
            | true =>
              have y2 := (show _ = some (Value.int .i64 op') from HT.out.test.cell 2); have q2 := HT.out.test.frozen 2
              go_wp2
              go_region
              all_goals go_wp2
              all_goals exact ⟨⟨k, 4, 3, rfl, rfl, by omega, by omega, .inr hlt, Lib.hid (by first | exact (HT.out.next (by go_grown)).set 2 3 0 4294967295 3 (-1) rfl | exact (HT.out.set 2 3 0 4294967295 3 (-1) rfl).next (by go_grown))⟩, by simp [intOf]⟩
            | false =>
              go_wp2
              go_region
              all_goals go_wp2
              all_goals exact ⟨⟨av, 4, op', rfl, rfl, by omega, by omega, hav2, Lib.hid (HT.out.next (by go_grown))⟩, by simp [intOf]⟩
        · have hkv2 : ¬ (kv : Int) ≤ 3 := by omega
          go_wp2
          exact ⟨⟨av, k + 1, op', rfl, by go_num, by omega, hav2, HT⟩, by simp [intOf]; omega⟩
    · rcases Nat.lt_or_ge k l.length with hkl | hkl
      · have hav0 : ¬ av = 0 := fun e => hgo ⟨hkl, e⟩
        have hal : av < l.length := by omega
        have ha0 : ((av : Int) == 0) = false := by simp; omega
        have hali : (av : Int) + 1 ≤ l.length := by omega
        have hl0 : (0 : Int) < l.length := by omega
        obtain ⟨c, l', rfl⟩ : ∃ c l', l = c :: l' := by cases l with | nil => simp at hal | cons c l' => exact ⟨c, l', rfl⟩
        have hki2 : (k : Int) < (l'.length : Int) + 1 := by simp at hkl; omega
        have hal2 : (av : Int) ≤ l'.length := by simp at hal; omega
        have hal3 : av ≤ l'.length := by simp at hal; omega
        have hav1 : (1 : Int) ≤ av := by omega
        have hg0 : ∀ h : 0 < (⟨(c :: l').toArray⟩ : ByteArray).size, (⟨(c :: l').toArray⟩ : ByteArray)[0]'h = c := fun _ => rfl
        by_cases hc : c = 97
        · have hcd : ((c.toNat : Int) != 97) = false := by rw [hc]; rfl
          clear hc
          go_wp2_with fail
          refine (l2Num_any _ wr).mono ?_; rintro e w1 ⟨rfl, rfl⟩
          obtain ⟨n3, hn3⟩ : ∃ n3, n3 = numOf ((⟨(c :: l').toArray⟩ : ByteArray).extract (av + 1) (l'.length + 1)).data.toList := ⟨_, rfl⟩
          rw [← hn3]
          clear hn3
          have y3 := (show _ = some (Value.int .i64 (-1)) from HT.out.test.cell 3); have q3 := HT.out.test.frozen 3
          have S3 := Lib.hid (HT.out.set 3 n3 0 4294967295 op n3 rfl)
          obtain ⟨W3, hW3⟩ : ∃ W, W = wr.setCell ⟨w.heap.size + 1, 3, none⟩ (.int .i64 n3) := ⟨_, rfl⟩
          rw [← hW3] at S3
          have HW3 := Lib.hid hW3
          clear hW3
          have hsx : ((⟨(c :: l').toArray⟩ : ByteArray).extract 1 av).size ≤ 16777216 := by
            rw [ByteArray.size_extract]
            have : (⟨(c :: l').toArray⟩ : ByteArray).size = l'.length + 1 := rfl
            simp at hs
            omega
          obtain ⟨sx, hsx'⟩ : ∃ sx, sx = (⟨(c :: l').toArray⟩ : ByteArray).extract 1 av := ⟨_, rfl⟩
          have HSX := Lib.hid hsx'
          rw [← hsx'] at hsx
          clear hsx'
          go_wp2_with (first | rw [← HW3.out, ← HSX.out] | rw [← HW3.out])
          try rw [← HSX.out]
          refine (show Calls Tryz.prog 28 #[.string sx, .int .u8 38] W3 _ from (l2Cut_any sx 38 W3 hsx)).mono ?_; rintro e w4 ⟨v4, rfl, ho4, hb4⟩
          obtain ⟨ws, hws⟩ : ∃ ws, ws = cut 38 sx.data.toList := ⟨_, rfl⟩
          have hne : ws ≠ [] := by rw [hws]; exact cut_ne _ _
          rw [← hws] at ho4
          clear hws
          have hpos : 0 < ws.length := List.length_pos_iff.2 hne
          obtain ⟨A4, n4, c4, rfl, hA4⟩ := SlA.of_own ho4 (strs_len ws) (strs_rows ws)
          obtain rfl : n4 = ws.length := by have := hA4.len; rw [strs_len] at this; exact this.symm
          have hc4 := hA4.cap
          have hm4 := hA4.max
          unfold maxLen at hm4
          have S4 := Lib.hid (S3.out.next hb4)
          obtain ⟨b1, o1, l0, rfl, hbl1, hl0, hcell0⟩ := strs_get hA4 (k := 0) hpos
          have k0 := hcell0 w4 _ (Below.refl _ _) hbl1
          rw [Nat.add_zero] at k0
          have HA4 := Lib.hid hA4
          have HO4 := Lib.hid ho4
          clear hcell0 hb4 ho4 hA4 y3 q3
          go_wp2_with fail
          refine (l2Num_any _ w4).mono ?_; rintro e w5 ⟨rfl, rfl⟩
          obtain ⟨n0, hn0⟩ : ∃ n0, n0 = numOf (⟨l0.toArray⟩ : ByteArray).data.toList := ⟨_, rfl⟩
          rw [← hn0]
          clear hn0
          have y0 := (show _ = some (Value.int .i64 0) from S4.out.test.cell 0); have q0 := S4.out.test.frozen 0
          have S5 := Lib.hid (S4.out.set 0 n0 n0 4294967295 op n3 rfl)
          obtain ⟨W5, hW5⟩ : ∃ W, W = w4.setCell ⟨w.heap.size + 1, 0, none⟩ (.int .i64 n0) := ⟨_, rfl⟩
          have HO5 : Hid (W5.ownsRow W3.heap.size 9 1 (.slice (some ⟨b1, o1, none⟩) ws.length c4) ws.length (strs ws).flatten) := by rw [hW5]; exact Lib.hid (own_lowsetS HO4.out S3.out.test.lt)
          rw [← hW5] at S5
          have HW5 := Lib.hid hW5
          clear hW5 k0
          go_upto_region 17 with (fail)
          rw [← HW5.out]
          clear y0 q0
          by_cases h2 : ws.length = 2
          · have h2i : (ws.length : Int) = 2 := by omega
            have h2d : ((ws.length : Int) == 2) = true := by simp; omega
            obtain ⟨A5, n5, c5, e5, hA5⟩ := SlA.of_own HO5.out (strs_len ws) (strs_rows ws)
            obtain ⟨rfl, rfl, rfl⟩ : some (⟨b1, o1, none⟩ : Addr) = A5 ∧ ws.length = n5 ∧ c4 = c5 := by simpa using e5
            obtain ⟨b2, o2, l1, e2, hbl2, hl1, hcell1⟩ := strs_get hA5 (k := 1) (by omega)
            obtain ⟨rfl, rfl⟩ : b1 = b2 ∧ o1 = o2 := by simpa using e2
            have k1 := hcell1 W5 _ (Below.refl _ _) hbl2
            have h1i : (1 : Int) < ws.length := by omega
            clear hcell1 hA5 e5 e2
            go_wp2_with fail
            refine (l2Num_any _ W5).mono ?_; rintro e w6 ⟨rfl, rfl⟩
            obtain ⟨n1, hn1⟩ : ∃ n1, n1 = numOf (⟨l1.toArray⟩ : ByteArray).data.toList := ⟨_, rfl⟩
            rw [← hn1]
            clear hn1 k1
            have y1 := (show _ = some (Value.int .i64 4294967295) from S5.out.test.cell 1); have q1 := S5.out.test.frozen 1
            have S6 := Lib.hid (S5.out.set 1 n1 n0 n1 op n3 rfl)
            obtain ⟨W6, hW6⟩ : ∃ W, W = W5.setCell ⟨w.heap.size + 1, 1, none⟩ (.int .i64 n1) := ⟨_, rfl⟩
            rw [← hW6] at S6
            have HW6 := Lib.hid hW6
            clear hW6
            go_upto_region 19 with (fail)
            rw [← HW6.out]
            clear y1 q1
            have y0 := (show W6.cell? ⟨w.heap.size + 1, 0, none⟩ = some (Value.int .i64 n0) from S6.out.test.cell 0); have y1 := (show W6.cell? ⟨w.heap.size + 1, 1, none⟩ = some (Value.int .i64 n1) from S6.out.test.cell 1); have y2 := (show W6.cell? ⟨w.heap.size + 1, 2, none⟩ = some (Value.int .i64 op) from S6.out.test.cell 2); have y3 := (show W6.cell? ⟨w.heap.size + 1, 3, none⟩ = some (Value.int .i64 n3) from S6.out.test.cell 3)
            have r0 := (show W6.cell? ⟨w.heap.size, 0, none⟩ = some (Value.int .i64 0) from S6.out.res.cell 0); have r1 := (show W6.cell? ⟨w.heap.size, 1, none⟩ = some (Value.int .i64 0) from S6.out.res.cell 1); have r2 := (show W6.cell? ⟨w.heap.size, 2, none⟩ = some (Value.int .i64 0) from S6.out.res.cell 2); have r3 := (show W6.cell? ⟨w.heap.size, 3, none⟩ = some (Value.int .i64 0) from S6.out.res.cell 3)
            have rf0 := S6.out.res.frozen 0; have rf1 := S6.out.res.frozen 1; have rf2 := S6.out.res.frozen 2; have rf3 := S6.out.res.frozen 3
            have HFIN := Lib.hid ((((S6.out.below.setCell (p := ⟨w.heap.size, 0, none⟩) (Nat.le_refl _) (.int .i64 n0)).setCell (p := ⟨w.heap.size, 1, none⟩) (Nat.le_refl _) (.int .i64 n1)).setCell (p := ⟨w.heap.size, 2, none⟩) (Nat.le_refl _) (.int .i64 op)).setCell (p := ⟨w.heap.size, 3, none⟩) (Nat.le_refl _) (.int .i64 n3))
            go_wp2
            refine bodyPost_ret (v := .agg #[.int .i64 n0, .int .i64 n1, .int .i64 op, .int .i64 n3]) (by simp [results, Tryz.results105, go_sem, r0, r1, r2, r3]) rfl ?_
            first | exact ⟨⟨n0, n1, op, n3⟩, rfl, HFIN.out⟩ | exact ⟨⟨⟨n0, n1, op, n3⟩, rfl⟩, HFIN.out⟩
          · have h2d : ((ws.length : Int) == 2) = false := by simp; omega
            have y0 := (show W5.cell? ⟨w.heap.size + 1, 0, none⟩ = some (Value.int .i64 n0) from S5.out.test.cell 0); have y1 := (show W5.cell? ⟨w.heap.size + 1, 1, none⟩ = some (Value.int .i64 4294967295) from S5.out.test.cell 1); have y2 := (show W5.cell? ⟨w.heap.size + 1, 2, none⟩ = some (Value.int .i64 op) from S5.out.test.cell 2); have y3 := (show W5.cell? ⟨w.heap.size + 1, 3, none⟩ = some (Value.int .i64 n3) from S5.out.test.cell 3)
            have r0 := (show W5.cell? ⟨w.heap.size, 0, none⟩ = some (Value.int .i64 0) from S5.out.res.cell 0); have r1 := (show W5.cell? ⟨w.heap.size, 1, none⟩ = some (Value.int .i64 0) from S5.out.res.cell 1); have r2 := (show W5.cell? ⟨w.heap.size, 2, none⟩ = some (Value.int .i64 0) from S5.out.res.cell 2); have r3 := (show W5.cell? ⟨w.heap.size, 3, none⟩ = some (Value.int .i64 0) from S5.out.res.cell 3)
            have rf0 := S5.out.res.frozen 0; have rf1 := S5.out.res.frozen 1; have rf2 := S5.out.res.frozen 2; have rf3 := S5.out.res.frozen 3
            have HFIN := Lib.hid ((((S5.out.below.setCell (p := ⟨w.heap.size, 0, none⟩) (Nat.le_refl _) (.int .i64 n0)).setCell (p := ⟨w.heap.size, 1, none⟩) (Nat.le_refl _) (.int .i64 4294967295)).setCell (p := ⟨w.heap.size, 2, none⟩) (Nat.le_refl _) (.int .i64 op)).setCell (p := ⟨w.heap.size, 3, none⟩) (Nat.le_refl _) (.int .i64 n3))
            go_wp2
            refine bodyPost_ret (v := .agg #[.int .i64 n0, .int .i64 4294967295, .int .i64 op, .int .i64 n3]) (by simp [results, Tryz.results105, go_sem, r0, r1, r2, r3]) rfl ?_
            first | exact ⟨⟨n0, 4294967295, op, n3⟩, rfl, HFIN.out⟩ | exact ⟨⟨⟨n0, 4294967295, op, n3⟩, rfl⟩, HFIN.out⟩
        · have hcd : ((c.toNat : Int) != 97) = true := by
            simp only [bne_iff_ne, ne_eq]
            intro e
            have h97 : c.toNat = 97 := by omega
            exact hc (UInt8.toNat_inj.1 (h97.trans rfl))
          have y0 := (show wr.cell? ⟨w.heap.size + 1, 0, none⟩ = some (Value.int .i64 0) from HT.out.test.cell 0); have y1 := (show wr.cell? ⟨w.heap.size + 1, 1, none⟩ = some (Value.int .i64 4294967295) from HT.out.test.cell 1); have y2 := (show wr.cell? ⟨w.heap.size + 1, 2, none⟩ = some (Value.int .i64 op) from HT.out.test.cell 2); have y3 := (show wr.cell? ⟨w.heap.size + 1, 3, none⟩ = some (Value.int .i64 (-1)) from HT.out.test.cell 3)
          have r0 := (show wr.cell? ⟨w.heap.size, 0, none⟩ = some (Value.int .i64 0) from HT.out.res.cell 0); have r1 := (show wr.cell? ⟨w.heap.size, 1, none⟩ = some (Value.int .i64 0) from HT.out.res.cell 1); have r2 := (show wr.cell? ⟨w.heap.size, 2, none⟩ = some (Value.int .i64 0) from HT.out.res.cell 2); have r3 := (show wr.cell? ⟨w.heap.size, 3, none⟩ = some (Value.int .i64 0) from HT.out.res.cell 3)
          have rf0 := HT.out.res.frozen 0; have rf1 := HT.out.res.frozen 1; have rf2 := HT.out.res.frozen 2; have rf3 := HT.out.res.frozen 3
          have HFIN := Lib.hid ((((HT.out.below.setCell (p := ⟨w.heap.size, 0, none⟩) (Nat.le_refl _) (.int .i64 0)).setCell (p := ⟨w.heap.size, 1, none⟩) (Nat.le_refl _) (.int .i64 4294967295)).setCell (p := ⟨w.heap.size, 2, none⟩) (Nat.le_refl _) (.int .i64 op)).setCell (p := ⟨w.heap.size, 3, none⟩) (Nat.le_refl _) (.int .i64 (-1)))
          go_wp2
          all_goals
            refine bodyPost_ret (v := .agg #[.int .i64 0, .int .i64 4294967295, .int .i64 op, .int .i64 (-1)]) (by simp [results, Tryz.results105, go_sem, r0, r1, r2, r3]) rfl ?_
            first | exact ⟨⟨0, 4294967295, op, (-1)⟩, rfl, HFIN.out⟩ | exact ⟨⟨⟨0, 4294967295, op, (-1)⟩, rfl⟩, HFIN.out⟩
      · have hki : ¬ (k : Int) < l.length := by omega
        by_cases hav0 : av = 0
        · subst hav0
          have y0 := (show wr.cell? ⟨w.heap.size + 1, 0, none⟩ = some (Value.int .i64 0) from HT.out.test.cell 0); have y1 := (show wr.cell? ⟨w.heap.size + 1, 1, none⟩ = some (Value.int .i64 4294967295) from HT.out.test.cell 1); have y2 := (show wr.cell? ⟨w.heap.size + 1, 2, none⟩ = some (Value.int .i64 op) from HT.out.test.cell 2); have y3 := (show wr.cell? ⟨w.heap.size + 1, 3, none⟩ = some (Value.int .i64 (-1)) from HT.out.test.cell 3)
          have r0 := (show wr.cell? ⟨w.heap.size, 0, none⟩ = some (Value.int .i64 0) from HT.out.res.cell 0); have r1 := (show wr.cell? ⟨w.heap.size, 1, none⟩ = some (Value.int .i64 0) from HT.out.res.cell 1); have r2 := (show wr.cell? ⟨w.heap.size, 2, none⟩ = some (Value.int .i64 0) from HT.out.res.cell 2); have r3 := (show wr.cell? ⟨w.heap.size, 3, none⟩ = some (Value.int .i64 0) from HT.out.res.cell 3)
          have rf0 := HT.out.res.frozen 0; have rf1 := HT.out.res.frozen 1; have rf2 := HT.out.res.frozen 2; have rf3 := HT.out.res.frozen 3
          have HFIN := Lib.hid ((((HT.out.below.setCell (p := ⟨w.heap.size, 0, none⟩) (Nat.le_refl _) (.int .i64 0)).setCell (p := ⟨w.heap.size, 1, none⟩) (Nat.le_refl _) (.int .i64 4294967295)).setCell (p := ⟨w.heap.size, 2, none⟩) (Nat.le_refl _) (.int .i64 op)).setCell (p := ⟨w.heap.size, 3, none⟩) (Nat.le_refl _) (.int .i64 (-1)))
          go_wp2
          refine bodyPost_ret (v := .agg #[.int .i64 0, .int .i64 4294967295, .int .i64 op, .int .i64 (-1)]) (by simp [results, Tryz.results105, go_sem, r0, r1, r2, r3]) rfl ?_
          first | exact ⟨⟨0, 4294967295, op, (-1)⟩, rfl, HFIN.out⟩ | exact ⟨⟨⟨0, 4294967295, op, (-1)⟩, rfl⟩, HFIN.out⟩
        · have hal0 := hav0
          have hal : av < l.length := by omega
          have ha0 : ((av : Int) == 0) = false := by simp; omega
          have hali : (av : Int) + 1 ≤ l.length := by omega
          have hl0 : (0 : Int) < l.length := by omega
          obtain ⟨c, l', rfl⟩ : ∃ c l', l = c :: l' := by cases l with | nil => simp at hal | cons c l' => exact ⟨c, l', rfl⟩
          have hki2 : ¬ (k : Int) < (l'.length : Int) + 1 := by simp at hkl; omega
          have hal2 : (av : Int) ≤ l'.length := by simp at hal; omega
          have hal3 : av ≤ l'.length := by simp at hal; omega
          have hav1 : (1 : Int) ≤ av := by omega
          have hg0 : ∀ h : 0 < (⟨(c :: l').toArray⟩ : ByteArray).size, (⟨(c :: l').toArray⟩ : ByteArray)[0]'h = c := fun _ => rfl
          by_cases hc : c = 97
          · have hcd : ((c.toNat : Int) != 97) = false := by rw [hc]; rfl
            clear hc
            go_wp2_with fail
            refine (l2Num_any _ wr).mono ?_; rintro e w1 ⟨rfl, rfl⟩
            obtain ⟨n3, hn3⟩ : ∃ n3, n3 = numOf ((⟨(c :: l').toArray⟩ : ByteArray).extract (av + 1) (l'.length + 1)).data.toList := ⟨_, rfl⟩
            rw [← hn3]
            clear hn3
            have y3 := (show _ = some (Value.int .i64 (-1)) from HT.out.test.cell 3); have q3 := HT.out.test.frozen 3
            have S3 := Lib.hid (HT.out.set 3 n3 0 4294967295 op n3 rfl)
            obtain ⟨W3, hW3⟩ : ∃ W, W = wr.setCell ⟨w.heap.size + 1, 3, none⟩ (.int .i64 n3) := ⟨_, rfl⟩
            rw [← hW3] at S3
            have HW3 := Lib.hid hW3
            clear hW3
            have hsx : ((⟨(c :: l').toArray⟩ : ByteArray).extract 1 av).size ≤ 16777216 := by
              rw [ByteArray.size_extract]
              have : (⟨(c :: l').toArray⟩ : ByteArray).size = l'.length + 1 := rfl
              simp at hs
              omega
            obtain ⟨sx, hsx'⟩ : ∃ sx, sx = (⟨(c :: l').toArray⟩ : ByteArray).extract 1 av := ⟨_, rfl⟩
            have HSX := Lib.hid hsx'
            rw [← hsx'] at hsx
            clear hsx'
            go_wp2_with (first | rw [← HW3.out, ← HSX.out] | rw [← HW3.out])
            try rw [← HSX.out]
            refine (show Calls Tryz.prog 28 #[.string sx, .int .u8 38] W3 _ from (l2Cut_any sx 38 W3 hsx)).mono ?_; rintro e w4 ⟨v4, rfl, ho4, hb4⟩
            obtain ⟨ws, hws⟩ : ∃ ws, ws = cut 38 sx.data.toList := ⟨_, rfl⟩
            have hne : ws ≠ [] := by rw [hws]; exact cut_ne _ _
            rw [← hws] at ho4
            clear hws
            have hpos : 0 < ws.length := List.length_pos_iff.2 hne
            obtain ⟨A4, n4, c4, rfl, hA4⟩ := SlA.of_own ho4 (strs_len ws) (strs_rows ws)
            obtain rfl : n4 = ws.length := by have := hA4.len; rw [strs_len] at this; exact this.symm
            have hc4 := hA4.cap
            have hm4 := hA4.max
            unfold maxLen at hm4
            have S4 := Lib.hid (S3.out.next hb4)
            obtain ⟨b1, o1, l0, rfl, hbl1, hl0, hcell0⟩ := strs_get hA4 (k := 0) hpos
            have k0 := hcell0 w4 _ (Below.refl _ _) hbl1
            rw [Nat.add_zero] at k0
            have HA4 := Lib.hid hA4
            have HO4 := Lib.hid ho4
            clear hcell0 hb4 ho4 hA4 y3 q3
            go_wp2_with fail
            refine (l2Num_any _ w4).mono ?_; rintro e w5 ⟨rfl, rfl⟩
            obtain ⟨n0, hn0⟩ : ∃ n0, n0 = numOf (⟨l0.toArray⟩ : ByteArray).data.toList := ⟨_, rfl⟩
            rw [← hn0]
            clear hn0
            have y0 := (show _ = some (Value.int .i64 0) from S4.out.test.cell 0); have q0 := S4.out.test.frozen 0
            have S5 := Lib.hid (S4.out.set 0 n0 n0 4294967295 op n3 rfl)
            obtain ⟨W5, hW5⟩ : ∃ W, W = w4.setCell ⟨w.heap.size + 1, 0, none⟩ (.int .i64 n0) := ⟨_, rfl⟩
            have HO5 : Hid (W5.ownsRow W3.heap.size 9 1 (.slice (some ⟨b1, o1, none⟩) ws.length c4) ws.length (strs ws).flatten) := by rw [hW5]; exact Lib.hid (own_lowsetS HO4.out S3.out.test.lt)
            rw [← hW5] at S5
            have HW5 := Lib.hid hW5
            clear hW5 k0
            go_upto_region 17 with (fail)
            rw [← HW5.out]
            clear y0 q0
            by_cases h2 : ws.length = 2
            · have h2i : (ws.length : Int) = 2 := by omega
              have h2d : ((ws.length : Int) == 2) = true := by simp; omega
              obtain ⟨A5, n5, c5, e5, hA5⟩ := SlA.of_own HO5.out (strs_len ws) (strs_rows ws)
              obtain ⟨rfl, rfl, rfl⟩ : some (⟨b1, o1, none⟩ : Addr) = A5 ∧ ws.length = n5 ∧ c4 = c5 := by simpa using e5
              obtain ⟨b2, o2, l1, e2, hbl2, hl1, hcell1⟩ := strs_get hA5 (k := 1) (by omega)
              obtain ⟨rfl, rfl⟩ : b1 = b2 ∧ o1 = o2 := by simpa using e2
              have k1 := hcell1 W5 _ (Below.refl _ _) hbl2
              have h1i : (1 : Int) < ws.length := by omega
              clear hcell1 hA5 e5 e2
              go_wp2_with fail
              refine (l2Num_any _ W5).mono ?_; rintro e w6 ⟨rfl, rfl⟩
              obtain ⟨n1, hn1⟩ : ∃ n1, n1 = numOf (⟨l1.toArray⟩ : ByteArray).data.toList := ⟨_, rfl⟩
              rw [← hn1]
              clear hn1 k1
              have y1 := (show _ = some (Value.int .i64 4294967295) from S5.out.test.cell 1); have q1 := S5.out.test.frozen 1
              have S6 := Lib.hid (S5.out.set 1 n1 n0 n1 op n3 rfl)
              obtain ⟨W6, hW6⟩ : ∃ W, W = W5.setCell ⟨w.heap.size + 1, 1, none⟩ (.int .i64 n1) := ⟨_, rfl⟩
              rw [← hW6] at S6
              have HW6 := Lib.hid hW6
              clear hW6
              go_upto_region 19 with (fail)
              rw [← HW6.out]
              clear y1 q1
              have y0 := (show W6.cell? ⟨w.heap.size + 1, 0, none⟩ = some (Value.int .i64 n0) from S6.out.test.cell 0); have y1 := (show W6.cell? ⟨w.heap.size + 1, 1, none⟩ = some (Value.int .i64 n1) from S6.out.test.cell 1); have y2 := (show W6.cell? ⟨w.heap.size + 1, 2, none⟩ = some (Value.int .i64 op) from S6.out.test.cell 2); have y3 := (show W6.cell? ⟨w.heap.size + 1, 3, none⟩ = some (Value.int .i64 n3) from S6.out.test.cell 3)
              have r0 := (show W6.cell? ⟨w.heap.size, 0, none⟩ = some (Value.int .i64 0) from S6.out.res.cell 0); have r1 := (show W6.cell? ⟨w.heap.size, 1, none⟩ = some (Value.int .i64 0) from S6.out.res.cell 1); have r2 := (show W6.cell? ⟨w.heap.size, 2, none⟩ = some (Value.int .i64 0) from S6.out.res.cell 2); have r3 := (show W6.cell? ⟨w.heap.size, 3, none⟩ = some (Value.int .i64 0) from S6.out.res.cell 3)
              have rf0 := S6.out.res.frozen 0; have rf1 := S6.out.res.frozen 1; have rf2 := S6.out.res.frozen 2; have rf3 := S6.out.res.frozen 3
              have HFIN := Lib.hid ((((S6.out.below.setCell (p := ⟨w.heap.size, 0, none⟩) (Nat.le_refl _) (.int .i64 n0)).setCell (p := ⟨w.heap.size, 1, none⟩) (Nat.le_refl _) (.int .i64 n1)).setCell (p := ⟨w.heap.size, 2, none⟩) (Nat.le_refl _) (.int .i64 op)).setCell (p := ⟨w.heap.size, 3, none⟩) (Nat.le_refl _) (.int .i64 n3))
              go_wp2
              refine bodyPost_ret (v := .agg #[.int .i64 n0, .int .i64 n1, .int .i64 op, .int .i64 n3]) (by simp [results, Tryz.results105, go_sem, r0, r1, r2, r3]) rfl ?_
              first | exact ⟨⟨n0, n1, op, n3⟩, rfl, HFIN.out⟩ | exact ⟨⟨⟨n0, n1, op, n3⟩, rfl⟩, HFIN.out⟩
            · have h2d : ((ws.length : Int) == 2) = false := by simp; omega
              have y0 := (show W5.cell? ⟨w.heap.size + 1, 0, none⟩ = some (Value.int .i64 n0) from S5.out.test.cell 0); have y1 := (show W5.cell? ⟨w.heap.size + 1, 1, none⟩ = some (Value.int .i64 4294967295) from S5.out.test.cell 1); have y2 := (show W5.cell? ⟨w.heap.size + 1, 2, none⟩ = some (Value.int .i64 op) from S5.out.test.cell 2); have y3 := (show W5.cell? ⟨w.heap.size + 1, 3, none⟩ = some (Value.int .i64 n3) from S5.out.test.cell 3)
              have r0 := (show W5.cell? ⟨w.heap.size, 0, none⟩ = some (Value.int .i64 0) from S5.out.res.cell 0); have r1 := (show W5.cell? ⟨w.heap.size, 1, none⟩ = some (Value.int .i64 0) from S5.out.res.cell 1); have r2 := (show W5.cell? ⟨w.heap.size, 2, none⟩ = some (Value.int .i64 0) from S5.out.res.cell 2); have r3 := (show W5.cell? ⟨w.heap.size, 3, none⟩ = some (Value.int .i64 0) from S5.out.res.cell 3)
              have rf0 := S5.out.res.frozen 0; have rf1 := S5.out.res.frozen 1; have rf2 := S5.out.res.frozen 2; have rf3 := S5.out.res.frozen 3
              have HFIN := Lib.hid ((((S5.out.below.setCell (p := ⟨w.heap.size, 0, none⟩) (Nat.le_refl _) (.int .i64 n0)).setCell (p := ⟨w.heap.size, 1, none⟩) (Nat.le_refl _) (.int .i64 4294967295)).setCell (p := ⟨w.heap.size, 2, none⟩) (Nat.le_refl _) (.int .i64 op)).setCell (p := ⟨w.heap.size, 3, none⟩) (Nat.le_refl _) (.int .i64 n3))
              go_wp2
              refine bodyPost_ret (v := .agg #[.int .i64 n0, .int .i64 4294967295, .int .i64 op, .int .i64 n3]) (by simp [results, Tryz.results105, go_sem, r0, r1, r2, r3]) rfl ?_
              first | exact ⟨⟨n0, 4294967295, op, n3⟩, rfl, HFIN.out⟩ | exact ⟨⟨⟨n0, 4294967295, op, n3⟩, rfl⟩, HFIN.out⟩
          · have hcd : ((c.toNat : Int) != 97) = true := by
              simp only [bne_iff_ne, ne_eq]
              intro e
              have h97 : c.toNat = 97 := by omega
              exact hc (UInt8.toNat_inj.1 (h97.trans rfl))
            have y0 := (show wr.cell? ⟨w.heap.size + 1, 0, none⟩ = some (Value.int .i64 0) from HT.out.test.cell 0); have y1 := (show wr.cell? ⟨w.heap.size + 1, 1, none⟩ = some (Value.int .i64 4294967295) from HT.out.test.cell 1); have y2 := (show wr.cell? ⟨w.heap.size + 1, 2, none⟩ = some (Value.int .i64 op) from HT.out.test.cell 2); have y3 := (show wr.cell? ⟨w.heap.size + 1, 3, none⟩ = some (Value.int .i64 (-1)) from HT.out.test.cell 3)
            have r0 := (show wr.cell? ⟨w.heap.size, 0, none⟩ = some (Value.int .i64 0) from HT.out.res.cell 0); have r1 := (show wr.cell? ⟨w.heap.size, 1, none⟩ = some (Value.int .i64 0) from HT.out.res.cell 1); have r2 := (show wr.cell? ⟨w.heap.size, 2, none⟩ = some (Value.int .i64 0) from HT.out.res.cell 2); have r3 := (show wr.cell? ⟨w.heap.size, 3, none⟩ = some (Value.int .i64 0) from HT.out.res.cell 3)
            have rf0 := HT.out.res.frozen 0; have rf1 := HT.out.res.frozen 1; have rf2 := HT.out.res.frozen 2; have rf3 := HT.out.res.frozen 3
            have HFIN := Lib.hid ((((HT.out.below.setCell (p := ⟨w.heap.size, 0, none⟩) (Nat.le_refl _) (.int .i64 0)).setCell (p := ⟨w.heap.size, 1, none⟩) (Nat.le_refl _) (.int .i64 4294967295)).setCell (p := ⟨w.heap.size, 2, none⟩) (Nat.le_refl _) (.int .i64 op)).setCell (p := ⟨w.heap.size, 3, none⟩) (Nat.le_refl _) (.int .i64 (-1)))
            go_wp2
            all_goals
              refine bodyPost_ret (v := .agg #[.int .i64 0, .int .i64 4294967295, .int .i64 op, .int .i64 (-1)]) (by simp [results, Tryz.results105, go_sem, r0, r1, r2, r3]) rfl ?_
              first | exact ⟨⟨0, 4294967295, op, (-1)⟩, rfl, HFIN.out⟩ | exact ⟨⟨⟨0, 4294967295, op, (-1)⟩, rfl⟩, HFIN.out⟩
end Go.Proofs.YtcomdkmglihdbaaGreatDoor

-- spec's reader of policies on any text: a rule.
namespace Go.Proofs.YtcomdkmglihdbaaGreatDoor
open Go.RowKit
set_option linter.unusedSimpArgs false
set_option linter.unusedVariables false

abbrev TRulS : TypeId := 125
/-- How the memory stands while a rule is read. -/
structure RQ (w w1 wr : World) (rb : Nat) (vd lo hi : Int) (tv : Value) : Prop where
  rule : Blk wr rb TRulS #[.int .i64 vd, .int .i64 lo, .int .i64 hi, tv]
  res : Blk wr w.heap.size TRulS #[.int .i64 0, .int .i64 0, .int .i64 0, .slice none 0 0]
  low : Below w1.heap.size w1 wr
  first : Below w.heap.size w w1
  more : w.heap.size < w1.heap.size
  after : w1.heap.size ≤ rb
theorem RQ.below {w w1 wr w' : World} {rb B : Nat} {a b c : Int} {tv : Value} (h : RQ w w1 wr rb a b c tv) (hb : Below B wr w') (hB : rb < B) : RQ w w1 w' rb a b c tv :=
  ⟨h.rule.below hb hB, h.res.below hb (by have := h.more; have := h.after; omega), h.low.trans (hb.mono (by have := h.after; omega)), h.first, h.more, h.after⟩
theorem RQ.next {w w1 wr w' : World} {rb : Nat} {a b c : Int} {tv : Value} (h : RQ w w1 wr rb a b c tv) (hb : Below wr.heap.size wr w') : RQ w w1 w' rb a b c tv := h.below hb h.rule.lt
theorem RQ.set {w w1 wr : World} {rb : Nat} {a b c a' b' c' : Int} {tv tv' : Value} (h : RQ w w1 wr rb a b c tv) (i : Nat) (x : Value) (e : (#[Value.int .i64 a, .int .i64 b, .int .i64 c, tv]).setIfInBounds i x = #[.int .i64 a', .int .i64 b', .int .i64 c', tv']) : RQ w w1 (wr.setCell ⟨rb, i, none⟩ x) rb a' b' c' tv' :=
  ⟨by rw [← e]; exact h.rule.set_ i _, h.res.far (show w.heap.size ≠ rb by have := h.more; have := h.after; omega) _, h.low.setCell (p := ⟨rb, i, none⟩) h.after _, h.first, h.more, h.after⟩
theorem RQ.all {w w1 wr : World} {rb : Nat} {a b c : Int} {tv : Value} (h : RQ w w1 wr rb a b c tv) : Below w.heap.size w wr := below_then h.first h.low
def tcS (t : Ts) : List Value := [.int .i64 t.field, .int .i64 t.mask, .int .i64 t.op, .int .i64 t.value]
theorem tsR_snoc (ts : List Ts) (t : Ts) : (tsR (ts ++ [t])).flatten = (tsR ts).flatten ++ tcS t := by
  simp [tsR, tcS]
  rfl
def sruT (rb b1 o1 n1 c1 k m : Nat) (tv : Value) (lk : List UInt8) (xs : List Value) : Nat → World → Value → Prop
  | 0, _, u => u = .pointer (some ⟨rb, 3, none⟩)
  | 1, _, u => u = tv
  | 2, _, u => u = .slice (some ⟨b1, o1, none⟩) n1 c1
  | 3, _, u => u = .int .i64 k
  | 4, _, u => u = .pointer (some ⟨b1, o1 + k, none⟩)
  | 5, _, u => u = .string ⟨lk.toArray⟩
  | 6, _, u => ∃ t : Ts, u = .agg #[.int .i64 t.field, .int .i64 t.mask, .int .i64 t.op, .int .i64 t.value]
  | 7, w, u => ∃ (b : Nat) (t : Ts), u = .slice (some ⟨b, 0, none⟩) 1 1 ∧ Blk w b TTestS (tcS t).toArray
  | 8, w, u => ∃ t : Ts, w.ownsRow (rb + 1) TTestS 4 u (m + 1) (xs ++ tcS t)
  | 9, _, u => u = .pointer (some ⟨rb, 3, none⟩)
  | _, _, _ => True
def sruR (rb i : Nat) (w w' : World) : Prop := (i = 8) ∨ Below w.heap.size w w' ∨ ∃ x cs, Blk w rb TRulS cs ∧ w' = w.setCell ⟨rb, 3, none⟩ x
theorem own_gbS {w w' : World} {base n : Nat} {e : TypeId} {size : Nat} {v : Value} {xs : List Value} (h : w.ownsRow base e size v n xs) (hg : w.grownBy w' v.ownBlock) (hb : base ≤ w.heap.size) : Below base w w' :=
  ⟨hg.os, hg.tape, hg.output, hg.size, fun k hk => hg.block k (by omega) (fun e => by have := (h.lt k e.symm).1; omega)⟩
theorem blk_flatS {w : World} {b : Nat} {t : TypeId} {l : List Value} (h : Blk w b t l.toArray) : ∀ (j : Nat) (u : Value), l[j]? = some u → w.cell? ((⟨b, 0, none⟩ : Addr).add j) = some u := fun j u hu => by
  rw [add_at, h.cell j]
  simpa using hu
theorem tcS_one (t : Ts) : ∀ u ∈ tcS t, u.oneCell' = true := by simp [tcS, Value.oneCell']
theorem putL_neS {L : Nat → Bool} {i j : Nat} (h : j ≠ i) : putL L i j = L j := by unfold putL; simp [h]
/-- How the memory stands where a rule is tried. -/
structure RZ (w w' : World) (rb qb pb : Nat) (r : Rl) (tv : Value) (res : Array Value) : Prop where
  rule : Blk w' rb TRulS #[.int .i64 r.verdict, .int .i64 r.low, .int .i64 r.high, tv]
  rows : Blk w' qb TRulS #[.int .i64 r.verdict, .int .i64 r.low, .int .i64 r.high, tv]
  pol : Blk w' pb 82 #[.slice (some ⟨qb, 0, none⟩) 1 1, .int .i64 1]
  own : w'.ownsRow (rb + 1) TTestS 4 tv r.tests.length (tsR r.tests).flatten
  res : Blk w' w.heap.size TRulS res
  below : Below w.heap.size w w'
  rlow : w.heap.size < rb
  qlow : w.heap.size < qb
  plow : w.heap.size < pb
theorem RZ.next {w w1 w2 : World} {rb qb pb : Nat} {r : Rl} {tv : Value} {res : Array Value} (h : RZ w w1 rb qb pb r tv res) (hb : Below w1.heap.size w1 w2) : RZ w w2 rb qb pb r tv res :=
  ⟨h.rule.below hb h.rule.lt, h.rows.below hb h.rows.lt, h.pol.below hb h.pol.lt, own_below h.own hb, h.res.below hb h.res.lt, below_then h.below hb, h.rlow, h.qlow, h.plow⟩
theorem RZ.set {w w1 : World} {rb qb pb : Nat} {r : Rl} {tv : Value} {res : Array Value} (h : RZ w w1 rb qb pb r tv res) (i : Nat) (x : Value) : RZ w (w1.setCell ⟨w.heap.size, i, none⟩ x) rb qb pb r tv (res.setIfInBounds i x) :=
  ⟨h.rule.far (show rb ≠ w.heap.size by have := h.rlow; omega) _, h.rows.far (show qb ≠ w.heap.size by have := h.qlow; omega) _, h.pol.far (show pb ≠ w.heap.size by have := h.plow; omega) _, own_lowsetS h.own (by have := h.rlow; omega), h.res.set_ i _, h.below.setCell (p := ⟨w.heap.size, i, none⟩) (Nat.le_refl _) _, h.rlow, h.qlow, h.plow⟩
theorem RZ.tests {w w1 : World} {rb qb pb : Nat} {r : Rl} {tv : Value} {res : Array Value} (h : RZ w w1 rb qb pb r tv res) : Sl w1 4 tv (tsR r.tests) :=
  SlA.of_own h.own (tsR_len _) (tsR_rows _)
theorem RZ.polIs {w w1 : World} {rb qb pb : Nat} {r : Rl} {tv : Value} {res : Array Value} (h : RZ w w1 rb qb pb r tv res) : PolIs w1 ⟨[r], 1⟩ (.agg #[.slice (some ⟨qb, 0, none⟩) 1 1, .int .i64 1]) := by
  refine ⟨_, [[.int .i64 r.verdict, .int .i64 r.low, .int .i64 r.high, tv]], rfl, ⟨_, 1, 1, rfl, SlA.of_filled h.rows rfl (by unfold maxLen; omega) ?_⟩, rfl, fun i r' cs h1 h2 => ?_⟩
  · intro i c hk hi j u hu
    match i, hi, hk with
    | 0, hi, _ => simp at hi; subst hi; simpa using hu
    | i + 1, _, h => omega
  · match i, h1, h2 with
    | 0, h1, h2 =>
      simp at h1 h2
      subst h1 h2
      exact ⟨tv, rfl, h.tests⟩
    | i + 1, h1, _ => simp at h1
theorem rule_fin {w w' : World} {l : List UInt8} {r : Rl} {tv : Value} {ok : Bool} (h : ok = true → polOkB ⟨[r], 1⟩ = true ∧ ruleText r = l ++ [10]) (h2 : w'.ownsRow w.heap.size TTestS 4 tv r.tests.length (tsR r.tests).flatten) (h3 : Below w.heap.size w w') : ∀ (e : Ending) (w2 : World), w2 = w' → e = .returned (.tuple #[.agg #[.int .i64 r.verdict, .int .i64 r.low, .int .i64 r.high, tv], .bool ok]) → ∃ (r : Rl) (tv : Value) (ok : Bool), e = .returned (.tuple #[.agg #[.int .i64 r.verdict, .int .i64 r.low, .int .i64 r.high, tv], .bool ok]) ∧ (ok = true → polOkB ⟨[r], 1⟩ = true ∧ ruleText r = l ++ [10]) ∧ w2.ownsRow w.heap.size TTestS 4 tv r.tests.length (tsR r.tests).flatten ∧ Below w.heap.size w w2 := by
  rintro e w2 rfl rfl
  exact ⟨r, tv, ok, rfl, h, h2, h3⟩
def rzT (qb : Nat) (l : List UInt8) (r : Rl) (tv : Value) (ok eq : Bool) : Nat → World → Value → Prop
  | 0, _, u => u = .agg #[.int .i64 r.verdict, .int .i64 r.low, .int .i64 r.high, tv]
  | 1, _, u => u = .agg #[.slice (some ⟨qb, 0, none⟩) 1 1, .int .i64 1]
  | 2, _, u => u = .bool ok
  | 3, _, u => u = .bool ok
  | 4, _, u => ok = true → u = .agg #[.int .i64 r.verdict, .int .i64 r.low, .int .i64 r.high, tv]
  | 5, _, u => ok = true → u = .string ⟨(ruleText r).toArray⟩
  | 6, _, u => ok = true → u = .string ⟨l.toArray⟩
  | 7, _, u => ok = true → u = .string ⟨(l ++ [10]).toArray⟩
  | 8, _, u => ok = true → u = .bool eq
  | 9, _, u => u = .bool (ok && eq)
  | 11, _, u => u = .bool (ok && eq)
  | _, _, _ => True
theorem rzT_any {qb : Nat} {l : List UInt8} {r : Rl} {tv : Value} {ok eq : Bool} {j : Nat} {w w' : World} {u : Value} (h : rzT qb l r tv ok eq j w u) : rzT qb l r tv ok eq j w' u := by
  unfold rzT at *
  split <;> simp_all
def rzRes (b : Bool) (r : Rl) (tv : Value) : Array Value := if b then #[.int .i64 r.verdict, .int .i64 r.low, .int .i64 r.high, tv] else #[.int .i64 0, .int .i64 0, .int .i64 0, .slice none 0 0]

set_option maxHeartbeats 8000000 in
theorem rdRule_any (l : List UInt8) (w : World) (hs : l.length ≤ 1048576) :
    Calls Tryz.prog 87 #[.string ⟨l.toArray⟩] w fun e w' => ∃ (r : Rl) (tv : Value) (ok : Bool), e = .returned (.tuple #[.agg #[.int .i64 r.verdict, .int .i64 r.low, .int .i64 r.high, tv], .bool ok]) ∧ (ok = true → polOkB ⟨[r], 1⟩ = true ∧ ruleText r = l ++ [10]) ∧ w'.ownsRow w.heap.size TTestS 4 tv r.tests.length (tsR r.tests).flatten ∧ Below w.heap.size w w' := by
  obtain ⟨W1, hW1⟩ : ∃ W, W = w.alloc (.cells #[.int .i64 0, .int .i64 0, .int .i64 0, .slice none 0 0] TRulS) := ⟨_, rfl⟩
  have bW : Hid (Below w.heap.size w W1) := by rw [hW1]; exact Lib.hid (by go_grown)
  have KR : Hid (Blk W1 w.heap.size TRulS #[.int .i64 0, .int .i64 0, .int .i64 0, .slice none 0 0]) := by rw [hW1]; exact Lib.hid (Blk.new _ _ _)
  have HW1 := Lib.hid hW1
  clear hW1
  have hcl := cut_len 32 l
  obtain ⟨ws, hws⟩ : ∃ ws, ws = cut 32 l := ⟨_, rfl⟩
  have HPL := Lib.hid (show ∀ x ∈ ws, x.length ≤ 1048576 from fun x hx => Nat.le_trans (piece_len 32 l x (by rw [← hws]; exact hx)) hs)
  have HCUT := Lib.hid (show ∀ W : World, Calls Tryz.prog 28 #[.string ⟨l.toArray⟩, .int .u8 32] W fun e w' => ∃ v, e = .returned v ∧ w'.ownsRow W.heap.size 9 1 v ws.length (strs ws).flatten ∧ Below W.heap.size W w' from fun W => by rw [hws]; exact l2Cut_any ⟨l.toArray⟩ 32 W (by show l.toArray.size ≤ _; simp; omega))
  rw [← hws] at hcl
  clear hws
  go_enter Tryz.func87, Tryz.ntmps87
  go_wp2_with fail
  rw [← HW1.out]
  refine (HCUT.out W1).mono ?_; rintro e w1 ⟨v1, rfl, ho1, hb1⟩
  obtain ⟨A1, n1, c1, rfl, hA1⟩ := SlA.of_own ho1 (strs_len ws) (strs_rows ws)
  obtain rfl : n1 = ws.length := by have := hA1.len; rw [strs_len] at this; exact this.symm
  have hc1 := hA1.cap
  have hm1 := hA1.max
  unfold maxLen at hm1
  have KR1 := Lib.hid (KR.out.below hb1 KR.out.lt)
  have HB1 := Lib.hid (below_then bW.out hb1)
  have HA1 := Lib.hid hA1
  clear ho1 hb1 hA1
  by_cases h2 : ws.length < 2
  · have h2i : (ws.length : Int) < 2 := by omega
    have r0 := (show w1.cell? ⟨w.heap.size, 0, none⟩ = some (Value.int .i64 0) from KR1.out.cell 0); have r1 := (show w1.cell? ⟨w.heap.size, 1, none⟩ = some (Value.int .i64 0) from KR1.out.cell 1); have r2 := (show w1.cell? ⟨w.heap.size, 2, none⟩ = some (Value.int .i64 0) from KR1.out.cell 2); have r3 := (show w1.cell? ⟨w.heap.size, 3, none⟩ = some (Value.slice none 0 0) from KR1.out.cell 3)
    have rf0 := KR1.out.frozen 0; have rf1 := KR1.out.frozen 1; have rf2 := KR1.out.frozen 2; have rf3 := KR1.out.frozen 3
    have HFIN := Lib.hid ((((HB1.out.setCell (p := ⟨w.heap.size, 0, none⟩) (Nat.le_refl _) (.int .i64 0)).setCell (p := ⟨w.heap.size, 1, none⟩) (Nat.le_refl _) (.int .i64 0)).setCell (p := ⟨w.heap.size, 2, none⟩) (Nat.le_refl _) (.int .i64 0)).setCell (p := ⟨w.heap.size, 3, none⟩) (Nat.le_refl _) (.slice none 0 0))
    go_wp2
    exact bodyPost_ret (v := .tuple #[.agg #[.int .i64 0, .int .i64 0, .int .i64 0, .slice none 0 0], .bool false]) (by simp [results, Tryz.results87, go_sem, r0, r1, r2, r3]) rfl ⟨⟨0, 0, 0, []⟩, .slice none 0 0, false, rfl, fun h => absurd h Bool.false_ne_true, World.ownsRow_nil _ _ _ _, HFIN.out⟩
  · have h2i : ¬ (ws.length : Int) < 2 := by omega
    obtain ⟨b1, o1, l0, rfl, hbl1, hl0, hcell0⟩ := strs_get HA1.out (k := 0) (by omega)
    have k0 := hcell0 w1 _ (Below.refl _ _) hbl1
    rw [Nat.add_zero] at k0
    obtain ⟨b1', o1', l1, e1', hbl1', hl1, hcell1⟩ := strs_get HA1.out (k := 1) (by omega)
    obtain ⟨rfl, rfl⟩ : b1 = b1' ∧ o1 = o1' := by simpa using e1'
    have HC1 := Lib.hid hcell1
    have HL1 := Lib.hid (HPL.out l1 (List.mem_of_getElem? hl1))
    have hw1 : w.heap.size < w1.heap.size := KR1.out.lt
    clear hcell0 hcell1 e1' hbl1'
    go_wp2_with fail
    refine (rdVerdict_any l0 w1).mono ?_; rintro e w2 ⟨vd, rfl, hvd, hb2⟩
    obtain ⟨rb, hrb⟩ : ∃ rb, rb = w2.heap.size := ⟨_, rfl⟩
    obtain ⟨W2, hW2⟩ : ∃ W, W = w2.alloc (.cells #[.int .i64 vd, .int .i64 0, .int .i64 0, .slice none 0 0] TRulS) := ⟨_, rfl⟩
    have b2 : Below w2.heap.size w2 W2 := by rw [hW2]; go_grown
    have Q2 : Hid (RQ w w1 W2 rb vd 0 0 (.slice none 0 0)) := Lib.hid ⟨by rw [hW2, hrb]; exact Blk.new _ _ _, (KR1.out.below hb2 KR1.out.lt).below b2 (Nat.lt_of_lt_of_le hw1 hb2.size), below_then hb2 b2, HB1.out, hw1, by rw [hrb]; exact hb2.size⟩
    have k1 := HC1.out W2 _ Q2.out.low hbl1
    have HW2 := Lib.hid hW2
    have HRB := Lib.hid hrb
    clear hW2 hrb b2 hb2 k0
    go_wp2_with (first | rw [← HW2.out, ← HRB.out] | rw [← HW2.out])
    refine (show Calls Tryz.prog 28 #[.string ⟨l1.toArray⟩, .int .u8 45] W2 _ from (l2Cut_any ⟨l1.toArray⟩ 45 W2 (by show l1.toArray.size ≤ _; have := HL1.out; simp; omega))).mono ?_; rintro e w3 ⟨v3, rfl, ho3, hb3⟩
    obtain ⟨es, hes⟩ : ∃ es, es = cut 45 (⟨l1.toArray⟩ : ByteArray).data.toList := ⟨_, rfl⟩
    have hene : es ≠ [] := by rw [hes]; exact cut_ne _ _
    rw [← hes] at ho3
    clear hes k1
    have hepos : 0 < es.length := List.length_pos_iff.2 hene
    obtain ⟨A3, n3, c3, rfl, hA3⟩ := SlA.of_own ho3 (strs_len es) (strs_rows es)
    obtain rfl : n3 = es.length := by have := hA3.len; rw [strs_len] at this; exact this.symm
    have hc3 := hA3.cap
    have hm3 := hA3.max
    unfold maxLen at hm3
    have Q3 := Lib.hid (Q2.out.next hb3)
    obtain ⟨b3, o3, m0, rfl, hbl3, hm0, hcell3⟩ := strs_get hA3 (k := 0) hepos
    have k3 := hcell3 w3 _ (Below.refl _ _) hbl3
    rw [Nat.add_zero] at k3
    have HO3 := Lib.hid ho3
    have hrbW : rb < W2.heap.size := Q2.out.rule.lt
    clear hcell3 hA3 ho3 hb3
    go_wp2_with fail
    refine (l2Num_any _ w3).mono ?_; rintro e wn ⟨rfl, rfl⟩
    obtain ⟨lo, hlo⟩ : ∃ lo, lo = numOf (⟨m0.toArray⟩ : ByteArray).data.toList := ⟨_, rfl⟩
    rw [← hlo]
    clear hlo k3
    have y1 := (show _ = some (Value.int .i64 0) from Q3.out.rule.cell 1); have q1 := Q3.out.rule.frozen 1
    have Q4 := Lib.hid (Q3.out.set (a' := vd) (b' := lo) (c' := 0) (tv' := .slice none 0 0) 1 (.int .i64 lo) rfl)
    obtain ⟨W4, hW4⟩ : ∃ W, W = w3.setCell ⟨rb, 1, none⟩ (.int .i64 lo) := ⟨_, rfl⟩
    have HO4 : Hid (W4.ownsRow W2.heap.size 9 1 (.slice (some ⟨b3, o3, none⟩) es.length c3) es.length (strs es).flatten) := by rw [hW4]; exact Lib.hid (own_lowsetS HO3.out hrbW)
    rw [← hW4] at Q4
    have HW4 := Lib.hid hW4
    clear hW4
    go_upto_region 7 with (fail)
    rw [← HW4.out]
    clear y1 q1
    obtain ⟨j, hj⟩ : ∃ j, es.length = j + 1 := ⟨es.length - 1, by omega⟩
    have hji : (es.length : Int) - 1 = (j : Int) := by omega
    have hjl : (j : Int) < es.length := by omega
    obtain ⟨A5, n5, c5, e5, hA5⟩ := SlA.of_own HO4.out (strs_len es) (strs_rows es)
    obtain ⟨rfl, rfl, rfl⟩ : some (⟨b3, o3, none⟩ : Addr) = A5 ∧ es.length = n5 ∧ c3 = c5 := by simpa using e5
    obtain ⟨b5, o5, mj, e6, hbl5, hmj, hcell5⟩ := strs_get hA5 (k := j) (by omega)
    obtain ⟨rfl, rfl⟩ : b3 = b5 ∧ o3 = o5 := by simpa using e6
    have k5 := hcell5 W4 _ (Below.refl _ _) hbl5
    clear hcell5 hA5 e5 e6
    go_wp2_with fail
    refine (l2Num_any _ W4).mono ?_; rintro e wn ⟨rfl, rfl⟩
    obtain ⟨hi, hhi⟩ : ∃ hi, hi = numOf (⟨mj.toArray⟩ : ByteArray).data.toList := ⟨_, rfl⟩
    rw [← hhi]
    clear hhi k5
    have y2 := (show _ = some (Value.int .i64 0) from Q4.out.rule.cell 2); have q2 := Q4.out.rule.frozen 2
    have Q5 := Lib.hid (Q4.out.set (a' := vd) (b' := lo) (c' := hi) (tv' := .slice none 0 0) 2 (.int .i64 hi) rfl)
    obtain ⟨W5, hW5⟩ : ∃ W, W = W4.setCell ⟨rb, 2, none⟩ (.int .i64 hi) := ⟨_, rfl⟩
    rw [← hW5] at Q5
    have HW5 := Lib.hid hW5
    clear hW5
    go_upto_region 8 with (fail)
    rw [← HW5.out]
    clear y2 q2 HO3 HO4 Q2 Q3 Q4 HW2 HW4 HC1 HL1
    have HRBZ := Lib.hid (show rb + 1 ≤ W5.heap.size from Q5.out.rule.lt)
    go_wp2_with fail
    go_loopw [7] (fun i wr => ∃ (k : Nat) (ts : List Ts) (tv : Value), i = .int .i64 k ∧ 2 ≤ k ∧ k ≤ ws.length ∧ ts.length + 2 = k ∧ Hid (RQ w w1 wr rb vd lo hi tv) ∧ Hid (wr.ownsRow (rb + 1) TTestS 4 tv ts.length (tsR ts).flatten) ∧ rb + 1 ≤ wr.heap.size) (fun i _ => ws.length - (intOf i).toNat)
    case atStart => exact ⟨2, [], .slice none 0 0, rfl, by omega, by omega, rfl, Q5, Lib.hid (World.ownsRow_nil _ _ _ _), HRBZ.out⟩
    case round =>
      obtain ⟨k, ts, tv, rfl, hk2, hk, hts, HQ, HO, hZ⟩ := hrel
      by_cases hlt : k < ws.length
      · have hki : (k : Int) < ws.length := by omega
        obtain ⟨A, c, rfl⟩ : ∃ A c, tv = .slice A ts.length c := by
          rcases HO.out.2 with ⟨rfl, h0⟩ | ⟨g', cap, cur, rfl, _⟩
          · exact ⟨none, 0, by rw [h0]⟩
          · exact ⟨_, _, rfl⟩
        obtain ⟨b6, o6, lk, e6, hbl6, hlk, hcell6⟩ := strs_get HA1.out (k := k) hlt
        obtain ⟨rfl, rfl⟩ : b1 = b6 ∧ o1 = o6 := by simpa using e6
        have HLK := Lib.hid (HPL.out lk (List.mem_of_getElem? hlk))
        have HCK := Lib.hid hcell6
        have HW1L := Lib.hid hbl6
        clear hcell6 e6 Q5
        go_wp2_with fail
        refine wp_region_rel (sruT rb b1 o1 ws.length c1 k ts.length (Value.slice A ts.length c) lk (tsR ts).flatten) (fun j => if j = 7 then some 8 else none) (fun L _ w' => (L 10 = false → RQ w w1 w' rb vd lo hi (Value.slice A ts.length c)) ∧ (L 8 = false → w'.ownsRow (rb + 1) TTestS 4 (Value.slice A ts.length c) ts.length (tsR ts).flatten) ∧ (L 10 = true → ∃ (tv' : Value) (t : Ts), RQ w w1 w' rb vd lo hi tv' ∧ w'.ownsRow (rb + 1) TTestS 4 tv' (ts.length + 1) ((tsR ts).flatten ++ tcS t)) ∧ rb + 1 ≤ w'.heap.size) (fun i w w' => sruR rb i w w') (by kernel_rfl) (by kernel_rfl) ⟨fun _ => HQ.out.next (Below.refl _ _).drew, fun _ => HO.out, fun h => (by cases h), hZ⟩ ?_ ?_
        · intro i j wa wb u hji hcj hwj hR hT
          match j, hji, hcj, hwj, hT with
          | 0, _, _, _, h => exact h
          | 1, _, _, _, h => exact h
          | 2, _, _, _, h => exact h
          | 3, _, _, _, h => exact h
          | 4, _, _, _, h => exact h
          | 5, _, _, _, h => exact h
          | 6, _, _, _, h => exact h
          | 7, h1, h2, h3, h =>
            obtain ⟨b, t, e, hb⟩ := h
            rcases hR with rfl | hR | ⟨x, cs, hcs, rfl⟩
            · exact absurd rfl h2
            · exact ⟨b, t, e, hb.below hR hb.lt⟩
            · exact ⟨b, t, e, hb.far (show b ≠ rb by intro e2; subst e2; have := hb.symm.trans hcs; injection this with e3; injection e3 with e4 e5; exact absurd e5 (by decide)) _⟩
          | 8, h1, h2, h3, h =>
            obtain ⟨t, h⟩ := h
            rcases hR with rfl | hR | ⟨x, cs, hcs, rfl⟩
            · exact absurd rfl h1
            · exact ⟨t, own_below h hR⟩
            · exact ⟨t, own_lowsetS h (Nat.lt_succ_self rb)⟩
          | 9, _, _, _, h => exact h
          | (m + 10), _, _, _, h => exact trivial
        refine wpRel_step [] (by kernel_rfl) (fun L kk w9 vals hk hw hun hcl hdl hT => ?_) ?_
        · have HW := Lib.hid hw; have HUN := Lib.hid hun; have HCL := Lib.hid hcl; have HDL := Lib.hid hdl
          clear hw hun hcl hdl hT
          simp only [fillR, Act.put, List.setIfInBounds_toArray, List.set_cons_succ, List.set_cons_zero]
          go_wp2
          exact ⟨_, rfl, rfl, ⟨fun h => HW.out.1 ((putL_neS (by decide)).symm.trans h), fun h => HW.out.2.1 ((putL_neS (by decide)).symm.trans h), fun h => HW.out.2.2.1 ((putL_neS (by decide)).symm.trans h), HW.out.2.2.2⟩, .inr (.inl (Below.refl _ _)), fun _ => rfl⟩
        refine wpRel_step [43] (by kernel_rfl) (fun L kk w9 vals hk hw hun hcl hdl hT => ?_) ?_
        · have t0 := hT 0 43 (by kernel_rfl) (.inl rfl)
          have HW := Lib.hid hw; have HUN := Lib.hid hun; have HCL := Lib.hid hcl; have HDL := Lib.hid hdl
          clear hw hun hcl hdl hT
          simp only [fillR, Act.put, List.setIfInBounds_toArray, List.set_cons_succ, List.set_cons_zero]
          rw [show vals 43 = Value.pointer (some ⟨rb, 3, none⟩) from t0]
          clear t0
          have y3 := (show _ = some (Value.slice A ts.length c) from (HW.out.1 (HCL.out 10 (by kernel_rfl))).rule.cell 3)
          go_wp2
          exact ⟨_, rfl, rfl, ⟨fun h => HW.out.1 ((putL_neS (by decide)).symm.trans h), fun h => HW.out.2.1 ((putL_neS (by decide)).symm.trans h), fun h => HW.out.2.2.1 ((putL_neS (by decide)).symm.trans h), HW.out.2.2.2⟩, .inr (.inl (Below.refl _ _)), fun _ => rfl⟩
        refine wpRel_step [] (by kernel_rfl) (fun L kk w9 vals hk hw hun hcl hdl hT => ?_) ?_
        · have HW := Lib.hid hw; have HUN := Lib.hid hun; have HCL := Lib.hid hcl; have HDL := Lib.hid hdl
          clear hw hun hcl hdl hT
          simp only [fillR, Act.put, List.setIfInBounds_toArray, List.set_cons_succ, List.set_cons_zero]
          go_wp2
          exact ⟨_, rfl, rfl, ⟨fun h => HW.out.1 ((putL_neS (by decide)).symm.trans h), fun h => HW.out.2.1 ((putL_neS (by decide)).symm.trans h), fun h => HW.out.2.2.1 ((putL_neS (by decide)).symm.trans h), HW.out.2.2.2⟩, .inr (.inl (Below.refl _ _)), fun _ => rfl⟩
        refine wpRel_step [] (by kernel_rfl) (fun L kk w9 vals hk hw hun hcl hdl hT => ?_) ?_
        · have HW := Lib.hid hw; have HUN := Lib.hid hun; have HCL := Lib.hid hcl; have HDL := Lib.hid hdl
          clear hw hun hcl hdl hT
          simp only [fillR, Act.put, List.setIfInBounds_toArray, List.set_cons_succ, List.set_cons_zero]
          go_wp2
          exact ⟨_, rfl, rfl, ⟨fun h => HW.out.1 ((putL_neS (by decide)).symm.trans h), fun h => HW.out.2.1 ((putL_neS (by decide)).symm.trans h), fun h => HW.out.2.2.1 ((putL_neS (by decide)).symm.trans h), HW.out.2.2.2⟩, .inr (.inl (Below.refl _ _)), fun _ => rfl⟩
        refine wpRel_step [45, 46] (by kernel_rfl) (fun L kk w9 vals hk hw hun hcl hdl hT => ?_) ?_
        · have t0 := hT 2 45 (by kernel_rfl) (.inl rfl)
          have t1 := hT 3 46 (by kernel_rfl) (.inl rfl)
          have HW := Lib.hid hw; have HUN := Lib.hid hun; have HCL := Lib.hid hcl; have HDL := Lib.hid hdl
          clear hw hun hcl hdl hT
          simp only [fillR, Act.put, List.setIfInBounds_toArray, List.set_cons_succ, List.set_cons_zero]
          rw [show vals 45 = Value.slice (some ⟨b1, o1, none⟩) ws.length c1 from t0]
          rw [show vals 46 = Value.int .i64 k from t1]
          clear t0 t1
          go_wp2
          exact ⟨_, rfl, rfl, ⟨fun h => HW.out.1 ((putL_neS (by decide)).symm.trans h), fun h => HW.out.2.1 ((putL_neS (by decide)).symm.trans h), fun h => HW.out.2.2.1 ((putL_neS (by decide)).symm.trans h), HW.out.2.2.2⟩, .inr (.inl (Below.refl _ _)), fun _ => rfl⟩
        refine wpRel_step [47] (by kernel_rfl) (fun L kk w9 vals hk hw hun hcl hdl hT => ?_) ?_
        · have t0 := hT 4 47 (by kernel_rfl) (.inl rfl)
          have HW := Lib.hid hw; have HUN := Lib.hid hun; have HCL := Lib.hid hcl; have HDL := Lib.hid hdl
          clear hw hun hcl hdl hT
          simp only [fillR, Act.put, List.setIfInBounds_toArray, List.set_cons_succ, List.set_cons_zero]
          rw [show vals 47 = Value.pointer (some ⟨b1, o1 + k, none⟩) from t0]
          clear t0
          have k6 := HCK.out w9 _ (HW.out.1 (HCL.out 10 (by kernel_rfl))).low HW1L.out
          go_wp2
          exact ⟨_, rfl, rfl, ⟨fun h => HW.out.1 ((putL_neS (by decide)).symm.trans h), fun h => HW.out.2.1 ((putL_neS (by decide)).symm.trans h), fun h => HW.out.2.2.1 ((putL_neS (by decide)).symm.trans h), HW.out.2.2.2⟩, .inr (.inl (Below.refl _ _)), fun _ => rfl⟩
        refine wpRel_step [48] (by kernel_rfl) (fun L kk w9 vals hk hw hun hcl hdl hT => ?_) ?_
        · have t0 := hT 5 48 (by kernel_rfl) (.inl rfl)
          have HW := Lib.hid hw; have HUN := Lib.hid hun; have HCL := Lib.hid hcl; have HDL := Lib.hid hdl
          clear hw hun hcl hdl hT
          simp only [fillR, Act.put, List.setIfInBounds_toArray, List.set_cons_succ, List.set_cons_zero]
          rw [show vals 48 = Value.string ⟨lk.toArray⟩ from t0]
          clear t0
          go_wp2_with fail
          refine (rdTest_any lk w9 HLK.out).mono ?_; rintro e w10 ⟨t, rfl, hb10⟩
          have h8 : L 8 = false := HCL.out 8 (by kernel_rfl)
          have h10 : L 10 = false := HCL.out 10 (by kernel_rfl)
          have HQ1 := Lib.hid ((HW.out.1 h10).next hb10); have HO1 := Lib.hid (own_below (HW.out.2.1 h8) hb10)
          have hz := HW.out.2.2.2; have hz2 := hb10.size
          have HB10 := Lib.hid hb10
          clear hb10
          go_wp2
          exact ⟨_, rfl, rfl, ⟨fun _ => HQ1.out, fun _ => HO1.out, fun h => (by rw [putL_neS (by decide), h10] at h; cases h), by omega⟩, .inr (.inl HB10.out), fun _ => ⟨t, rfl⟩⟩
        refine wpRel_step [49] (by kernel_rfl) (fun L kk w9 vals hk hw hun hcl hdl hT => ?_) ?_
        · have t0 := hT 6 49 (by kernel_rfl) (.inl rfl)
          have HW := Lib.hid hw; have HUN := Lib.hid hun; have HCL := Lib.hid hcl; have HDL := Lib.hid hdl
          clear hw hun hcl hdl hT
          simp only [fillR, Act.put, List.setIfInBounds_toArray, List.set_cons_succ, List.set_cons_zero]
          obtain ⟨t, ht⟩ := t0
          rw [ht]
          clear ht
          have h8 : L 8 = false := HCL.out 8 (by kernel_rfl)
          have h10 : L 10 = false := HCL.out 10 (by kernel_rfl)
          have hzz := HW.out.2.2.2
          go_wp2
          have hb : Below w9.heap.size w9 (w9.alloc (.cells (tcS t).toArray TTestS)) := by go_grown
          exact ⟨_, rfl, rfl, ⟨fun _ => (HW.out.1 h10).next hb, fun _ => own_below (HW.out.2.1 h8) hb, fun h => (by rw [putL_neS (by decide), h10] at h; cases h), Nat.le_trans hzz (by simp)⟩, .inr (.inl hb), fun _ => ⟨w9.heap.size, t, rfl, Blk.new _ _ _⟩⟩
        refine wpRel_step [44, 50] (by kernel_rfl) (fun L kk w9 vals hk hw hun hcl hdl hT => ?_) ?_
        · have t0 := hT 1 44 (by kernel_rfl) (.inl rfl)
          have t1 := hT 7 50 (by kernel_rfl) (.inr rfl)
          have HW := Lib.hid hw; have HUN := Lib.hid hun; have HCL := Lib.hid hcl; have HDL := Lib.hid hdl
          clear hw hun hcl hdl hT
          simp only [fillR, Act.put, List.setIfInBounds_toArray, List.set_cons_succ, List.set_cons_zero]
          obtain ⟨b4, t, e4, hb4⟩ := t1
          have HB4 := Lib.hid hb4
          clear hb4
          rw [e4]
          rw [show vals 44 = Value.slice A ts.length c from t0]
          clear t0
          have h10 : L 10 = false := HCL.out 10 (by kernel_rfl)
          have HR1 := Lib.hid (HW.out.1 h10); have HO1 := Lib.hid (HW.out.2.1 HUN.out)
          have hzz := HW.out.2.2.2
          obtain ⟨i0, hi0, hz0, hz1, hz2⟩ := info_parts info_TestM
          go_wp2_with (at_builtin; go_must (refine wpList_append_own _ rfl (.tmp 44) (.tmp 50) _ rfl (rb + 1) TTestS i0 _ 4 32 Tryz.underlying123 hi0 hz0 hz1 hz2 rfl (by omega) (Value.slice A ts.length c) ts.length (tsR ts).flatten rfl HO1.out ⟨b4, 0, none⟩ 1 1 (tcS t) rfl rfl (blk_flatS HB4.out) (tcS_one t) (by unfold maxLen; omega) (by omega) (by omega) ?_); intro v7 w7 hown7 hg7 _; have HO7 := Lib.hid hown7; have HG7 := Lib.hid hg7; clear hown7 hg7)
          have hb7 := own_gbS HO1.out HG7.out hzz
          exact ⟨_, rfl, rfl, ⟨fun _ => HR1.out.below hb7 (by omega), fun h => (by simp [putL] at h), fun h => (by rw [putL_neS (by decide), h10] at h; cases h), by have := HG7.out.size; omega⟩, .inl rfl, fun _ => ⟨t, HO7.out⟩⟩
        refine wpRel_step [] (by kernel_rfl) (fun L kk w9 vals hk hw hun hcl hdl hT => ?_) ?_
        · have HW := Lib.hid hw; have HUN := Lib.hid hun; have HCL := Lib.hid hcl; have HDL := Lib.hid hdl
          clear hw hun hcl hdl hT
          simp only [fillR, Act.put, List.setIfInBounds_toArray, List.set_cons_succ, List.set_cons_zero]
          go_wp2
          exact ⟨_, rfl, rfl, ⟨fun h => HW.out.1 ((putL_neS (by decide)).symm.trans h), fun h => HW.out.2.1 ((putL_neS (by decide)).symm.trans h), fun h => HW.out.2.2.1 ((putL_neS (by decide)).symm.trans h), HW.out.2.2.2⟩, .inr (.inl (Below.refl _ _)), fun _ => rfl⟩
        refine wpRel_step [52, 51] (by kernel_rfl) (fun L kk w9 vals hk hw hun hcl hdl hT => ?_) ?_
        · have t0 := hT 9 52 (by kernel_rfl) (.inl rfl)
          have t1 := hT 8 51 (by kernel_rfl) (.inl rfl)
          have HW := Lib.hid hw; have HUN := Lib.hid hun; have HCL := Lib.hid hcl; have HDL := Lib.hid hdl
          clear hw hun hcl hdl hT
          simp only [fillR, Act.put, List.setIfInBounds_toArray, List.set_cons_succ, List.set_cons_zero]
          have HT5 := Lib.hid (show ∃ t : Ts, w9.ownsRow (rb + 1) TTestS 4 (vals 51) (ts.length + 1) ((tsR ts).flatten ++ tcS t) from t1)
          obtain ⟨u5, hu5⟩ : ∃ u, u = vals 51 := ⟨_, rfl⟩
          rw [← hu5] at HT5 ⊢
          clear hu5 t1
          rw [show vals 52 = Value.pointer (some ⟨rb, 3, none⟩) from t0]
          clear t0
          obtain ⟨t, HT6⟩ : ∃ t : Ts, Hid (w9.ownsRow (rb + 1) TTestS 4 u5 (ts.length + 1) ((tsR ts).flatten ++ tcS t)) := by obtain ⟨t, h⟩ := HT5.out; exact ⟨t, Lib.hid h⟩
          clear HT5
          obtain ⟨b5, c5, rfl, hb5, hb5'⟩ := HT6.out.form (by omega)
          have HR1 := Lib.hid (HW.out.1 HUN.out)
          have hzz := HW.out.2.2.2
          have y3 := (show _ = some (Value.slice A ts.length c) from HR1.out.rule.cell 3); have q3 := HR1.out.rule.frozen 3
          have HR2 := Lib.hid (HR1.out.set (a' := vd) (b' := lo) (c' := hi) (tv' := .slice (some ⟨b5, 0, none⟩) (ts.length + 1) c5) 3 (.slice (some ⟨b5, 0, none⟩) (ts.length + 1) c5) rfl); have HO2 := Lib.hid (own_lowsetS (i := 3) (x := .slice (some ⟨b5, 0, none⟩) (ts.length + 1) c5) HT6.out (Nat.lt_succ_self rb))
          go_wp2
          exact ⟨undef, rfl, rfl, ⟨fun h => (by simp [putL] at h), fun h => (by rw [putL_neS (by decide), HDL.out 8 (by kernel_rfl)] at h; cases h), fun _ => ⟨_, t, HR2.out, HO2.out⟩, by simpa using hzz⟩, .inr (.inr ⟨_, _, HR1.out.rule, rfl⟩), fun h => absurd rfl h⟩
        refine wpRel_end [43, 44, 45, 46, 47, 48, 49, 50, 51, 52] (by kernel_rfl) (fun L w9 vals hl hw hT => ?_)
        obtain ⟨tv', t, hS9, hO9⟩ := hw.2.2.1 (hl 10 (by decide))
        have hZ9 := hw.2.2.2
        rw [← tsR_snoc] at hO9
        have HS9 := Lib.hid hS9; have HO9 := Lib.hid hO9
        clear hl hw hT hS9 hO9
        simp only [fillR, Act.put, List.setIfInBounds_toArray, List.set_cons_succ, List.set_cons_zero]
        go_wp2
        exact ⟨⟨k + 1, ts ++ [t], tv', by go_num, by omega, by omega, by simp; omega, HS9, Lib.hid (by simpa using HO9.out), hZ9⟩, by simp [intOf]; omega⟩
      · have hki : ¬ (k : Int) < ws.length := by omega
        obtain rfl : k = ws.length := by omega
        clear Q5
        have y0 := (show _ = some (Value.int .i64 vd) from HQ.out.rule.cell 0); have y1 := (show _ = some (Value.int .i64 lo) from HQ.out.rule.cell 1); have y2 := (show _ = some (Value.int .i64 hi) from HQ.out.rule.cell 2); have y3 := (show _ = some tv from HQ.out.rule.cell 3)
        go_upto_region 13 with (fail)
        obtain ⟨r, hr⟩ : ∃ r : Rl, r = ⟨vd, lo, hi, ts⟩ := ⟨_, rfl⟩
        obtain ⟨qb, hqb⟩ : ∃ qb, qb = wr.heap.size := ⟨_, rfl⟩
        obtain ⟨pb, hpb⟩ : ∃ pb, pb = wr.heap.size + 1 := ⟨_, rfl⟩
        obtain ⟨W13, hW13⟩ : ∃ W, W = (wr.alloc (.cells #[.int .i64 vd, .int .i64 lo, .int .i64 hi, tv] TRulS)).alloc (.cells #[.slice (some ⟨wr.heap.size, 0, none⟩) 1 1, .int .i64 1] 82) := ⟨_, rfl⟩
        have HZ13 : Hid (RZ w W13 rb qb pb r tv (rzRes false r tv)) := by
          rw [hW13, hr, hqb, hpb]
          have hp := Blk.new (wr.alloc (.cells #[.int .i64 vd, .int .i64 lo, .int .i64 hi, tv] TRulS)) 82 #[.slice (some ⟨wr.heap.size, 0, none⟩) 1 1, .int .i64 1]
          have h1 := HQ.out.more; have h2 := HQ.out.after
          exact Lib.hid ⟨(HQ.out.rule.alloc _).alloc _, (Blk.new _ _ _).alloc _, by simpa using hp, (HO.out.alloc _).alloc _, (HQ.out.res.alloc _).alloc _, HQ.out.all.trans (by go_grown), by omega, by omega, by omega⟩
        have HW13 := Lib.hid hW13
        have HPB := Lib.hid hpb
        obtain ⟨eq, heq⟩ : ∃ eq, eq = (ruleText r == l ++ [10]) := ⟨_, rfl⟩
        have HEQ := Lib.hid heq
        have HRR := Lib.hid hr
        have HTV : Hid (∃ A c, tv = .slice A ts.length c) := Lib.hid (by
          rcases HO.out.2 with ⟨rfl, h0⟩ | ⟨g', cap, cur, rfl, _⟩
          · exact ⟨none, 0, by rw [h0]⟩
          · exact ⟨_, _, rfl⟩)
        clear hr hqb hpb hW13 heq y0 y1 y2 y3
        rw [← HW13.out, ← HPB.out]
        cases hok : polOkB ⟨[r], 1⟩ with
        | true =>
          have HOK := Lib.hid hok
          have HRO : Hid (ruleOkB r = true) := Lib.hid (by
            unfold polOkB polShapeB at hok
            simp at hok
            exact hok.1.2)
          clear hok
          refine wp_region_rel (rzT qb l r tv true eq) (fun _ => none) (fun L _ w' => RZ w w' rb qb pb r tv (rzRes (L 10) r tv)) (fun _ _ _ => True) (by kernel_rfl) (by kernel_rfl) (show RZ w _ rb qb pb r tv (rzRes false r tv) from HZ13.out.next (Below.refl _ _).drew) (fun i j wa wb u _ _ _ _ h => rzT_any h) ?_
          refine wpRel_step [] (by kernel_rfl) (fun L kk w9 vals hk hw hun hcl hdl hT => ?_) ?_
          · have HZ := Lib.hid hw; have HUN := Lib.hid hun
            clear hw hun hcl hdl hT
            simp only [fillR, Act.put, List.setIfInBounds_toArray, List.set_cons_succ, List.set_cons_zero]
            have y0 := (show w9.cell? ⟨rb, 0, none⟩ = some (Value.int .i64 r.verdict) from HZ.out.rule.cell 0); have y1 := (show w9.cell? ⟨rb, 1, none⟩ = some (Value.int .i64 r.low) from HZ.out.rule.cell 1); have y2 := (show w9.cell? ⟨rb, 2, none⟩ = some (Value.int .i64 r.high) from HZ.out.rule.cell 2); have y3 := (show w9.cell? ⟨rb, 3, none⟩ = some tv from HZ.out.rule.cell 3)
            go_wp2
            exact ⟨_, rfl, rfl, (show RZ w _ rb qb pb _ tv (rzRes _ _ tv) from by rw [putL_neS (by decide)]; exact HZ.out), trivial, fun _ => rfl⟩
          refine wpRel_step [] (by kernel_rfl) (fun L kk w9 vals hk hw hun hcl hdl hT => ?_) ?_
          · have HZ := Lib.hid hw; have HUN := Lib.hid hun
            clear hw hun hcl hdl hT
            simp only [fillR, Act.put, List.setIfInBounds_toArray, List.set_cons_succ, List.set_cons_zero]
            have y0 := (show w9.cell? ⟨pb, 0, none⟩ = some (Value.slice (some ⟨qb, 0, none⟩) 1 1) from HZ.out.pol.cell 0); have y1 := (show w9.cell? ⟨pb, 1, none⟩ = some (Value.int .i64 1) from HZ.out.pol.cell 1)
            go_wp2
            exact ⟨_, rfl, rfl, (show RZ w _ rb qb pb _ tv (rzRes _ _ tv) from by rw [putL_neS (by decide)]; exact HZ.out), trivial, fun _ => rfl⟩
          refine wpRel_step [57] (by kernel_rfl) (fun L kk w9 vals hk hw hun hcl hdl hT => ?_) ?_
          · have t1 := hT 1 57 (by kernel_rfl) (.inl rfl)
            have HZ := Lib.hid hw; have HUN := Lib.hid hun
            clear hw hun hcl hdl hT
            simp only [fillR, Act.put, List.setIfInBounds_toArray, List.set_cons_succ, List.set_cons_zero]
            rw [show vals 57 = Value.agg #[.slice (some ⟨qb, 0, none⟩) 1 1, .int .i64 1] from t1]
            clear t1
            go_wp2_with fail
            refine (PolicyOk_any ⟨[r], 1⟩ _ w9 HZ.out.polIs).mono ?_; rintro e w10 ⟨rfl, hb10⟩
            rw [HOK.out]
            have HZ1 := Lib.hid (HZ.out.next hb10)
            clear hb10
            go_wp2
            exact ⟨_, rfl, rfl, (show RZ w _ rb qb pb _ tv (rzRes _ _ tv) from by rw [putL_neS (by decide)]; exact HZ1.out), trivial, fun _ => rfl⟩
          refine wpRel_step [58] (by kernel_rfl) (fun L kk w9 vals hk hw hun hcl hdl hT => ?_) ?_
          · have t2 := hT 2 58 (by kernel_rfl) (.inl rfl)
            have HZ := Lib.hid hw; have HUN := Lib.hid hun
            clear hw hun hcl hdl hT
            simp only [fillR, Act.put, List.setIfInBounds_toArray, List.set_cons_succ, List.set_cons_zero]
            rw [show vals 58 = Value.bool true from t2]
            clear t2
            go_wp2
            exact ⟨_, rfl, rfl, (show RZ w _ rb qb pb _ tv (rzRes _ _ tv) from by rw [putL_neS (by decide)]; exact HZ.out), trivial, fun _ => rfl⟩
          refine wpRel_step [59] (by kernel_rfl) (fun L kk w9 vals hk hw hun hcl hdl hT => ?_) ?_
          · have t3 := hT 3 59 (by kernel_rfl) (.inl rfl)
            have HZ := Lib.hid hw; have HUN := Lib.hid hun
            clear hw hun hcl hdl hT
            simp only [fillR, Act.put, List.setIfInBounds_toArray, List.set_cons_succ, List.set_cons_zero]
            rw [show vals 59 = Value.bool true from t3]
            clear t3
            have y0 := (show w9.cell? ⟨rb, 0, none⟩ = some (Value.int .i64 r.verdict) from HZ.out.rule.cell 0); have y1 := (show w9.cell? ⟨rb, 1, none⟩ = some (Value.int .i64 r.low) from HZ.out.rule.cell 1); have y2 := (show w9.cell? ⟨rb, 2, none⟩ = some (Value.int .i64 r.high) from HZ.out.rule.cell 2); have y3 := (show w9.cell? ⟨rb, 3, none⟩ = some tv from HZ.out.rule.cell 3)
            go_wp2
            exact ⟨_, rfl, rfl, (show RZ w _ rb qb pb _ tv (rzRes _ _ tv) from by rw [putL_neS (by decide)]; exact HZ.out), trivial, fun _ => fun _ => rfl⟩
          refine wpRel_step [60, 59] (by kernel_rfl) (fun L kk w9 vals hk hw hun hcl hdl hT => ?_) ?_
          · have t3 := hT 3 59 (by kernel_rfl) (.inl rfl)
            have t4 := hT 4 60 (by kernel_rfl) (.inl rfl) rfl
            have HZ := Lib.hid hw; have HUN := Lib.hid hun
            clear hw hun hcl hdl hT
            simp only [fillR, Act.put, List.setIfInBounds_toArray, List.set_cons_succ, List.set_cons_zero]
            rw [show vals 59 = Value.bool true from t3]
            clear t3
            rw [show vals 60 = Value.agg #[.int .i64 r.verdict, .int .i64 r.low, .int .i64 r.high, tv] from t4]
            clear t4
            go_wp2_with fail
            refine (l2Line_any r tv w9 HZ.out.tests HRO.out).mono ?_; rintro e w10 ⟨rfl, hb10⟩
            have HZ1 := Lib.hid (HZ.out.next hb10)
            clear hb10
            go_wp2
            exact ⟨_, rfl, rfl, (show RZ w _ rb qb pb _ tv (rzRes _ _ tv) from by rw [putL_neS (by decide)]; exact HZ1.out), trivial, fun _ => fun _ => rfl⟩
          refine wpRel_step [59] (by kernel_rfl) (fun L kk w9 vals hk hw hun hcl hdl hT => ?_) ?_
          · have t3 := hT 3 59 (by kernel_rfl) (.inl rfl)
            have HZ := Lib.hid hw; have HUN := Lib.hid hun
            clear hw hun hcl hdl hT
            simp only [fillR, Act.put, List.setIfInBounds_toArray, List.set_cons_succ, List.set_cons_zero]
            rw [show vals 59 = Value.bool true from t3]
            clear t3
            go_wp2
            exact ⟨_, rfl, rfl, (show RZ w _ rb qb pb _ tv (rzRes _ _ tv) from by rw [putL_neS (by decide)]; exact HZ.out), trivial, fun _ => fun _ => rfl⟩
          refine wpRel_step [62, 59] (by kernel_rfl) (fun L kk w9 vals hk hw hun hcl hdl hT => ?_) ?_
          · have t3 := hT 3 59 (by kernel_rfl) (.inl rfl)
            have t6 := hT 6 62 (by kernel_rfl) (.inl rfl) rfl
            have HZ := Lib.hid hw; have HUN := Lib.hid hun
            clear hw hun hcl hdl hT
            simp only [fillR, Act.put, List.setIfInBounds_toArray, List.set_cons_succ, List.set_cons_zero]
            rw [show vals 59 = Value.bool true from t3]
            clear t3
            rw [show vals 62 = Value.string ⟨l.toArray⟩ from t6]
            clear t6
            go_wp2
            exact ⟨_, rfl, rfl, (show RZ w _ rb qb pb _ tv (rzRes _ _ tv) from by rw [putL_neS (by decide)]; exact HZ.out), trivial, fun _ => fun _ => (congrArg Value.string (ByteArray.ext (by simp)))⟩
          refine wpRel_step [61, 63, 59] (by kernel_rfl) (fun L kk w9 vals hk hw hun hcl hdl hT => ?_) ?_
          · have t3 := hT 3 59 (by kernel_rfl) (.inl rfl)
            have t5 := hT 5 61 (by kernel_rfl) (.inl rfl) rfl
            have t7 := hT 7 63 (by kernel_rfl) (.inl rfl) rfl
            have HZ := Lib.hid hw; have HUN := Lib.hid hun
            clear hw hun hcl hdl hT
            simp only [fillR, Act.put, List.setIfInBounds_toArray, List.set_cons_succ, List.set_cons_zero]
            rw [show vals 59 = Value.bool true from t3]
            clear t3
            rw [show vals 61 = Value.string ⟨(ruleText r).toArray⟩ from t5]
            rw [show vals 63 = Value.string ⟨(l ++ [10]).toArray⟩ from t7]
            clear t5 t7
            go_wp2
            exact ⟨_, rfl, rfl, (show RZ w _ rb qb pb _ tv (rzRes _ _ tv) from by rw [putL_neS (by decide)]; exact HZ.out), trivial, fun _ => fun _ => (by rw [HEQ.out])⟩
          refine wpRel_step [59, 64] (by kernel_rfl) (fun L kk w9 vals hk hw hun hcl hdl hT => ?_) ?_
          · have t3 := hT 3 59 (by kernel_rfl) (.inl rfl)
            have t8 := hT 8 64 (by kernel_rfl) (.inl rfl) rfl
            have HZ := Lib.hid hw; have HUN := Lib.hid hun
            clear hw hun hcl hdl hT
            simp only [fillR, Act.put, List.setIfInBounds_toArray, List.set_cons_succ, List.set_cons_zero]
            rw [show vals 59 = Value.bool true from t3]
            clear t3
            rw [show vals 64 = Value.bool eq from t8]
            clear t8
            go_wp2
            exact ⟨_, rfl, rfl, (show RZ w _ rb qb pb _ tv (rzRes _ _ tv) from by rw [putL_neS (by decide)]; exact HZ.out), trivial, fun _ => rfl⟩
          refine wpRel_step [56] (by kernel_rfl) (fun L kk w9 vals hk hw hun hcl hdl hT => ?_) ?_
          · have t0 := hT 0 56 (by kernel_rfl) (.inl rfl)
            have HZ := Lib.hid hw; have HUN := Lib.hid hun
            clear hw hun hcl hdl hT
            simp only [fillR, Act.put, List.setIfInBounds_toArray, List.set_cons_succ, List.set_cons_zero]
            rw [show vals 56 = Value.agg #[.int .i64 r.verdict, .int .i64 r.low, .int .i64 r.high, tv] from t0]
            clear t0
            obtain ⟨A, c, rfl⟩ := HTV.out
            rw [HUN.out] at HZ
            have r0 := (show w9.cell? ⟨w.heap.size, 0, none⟩ = some (Value.int .i64 0) from HZ.out.res.cell 0); have r1 := (show w9.cell? ⟨w.heap.size, 1, none⟩ = some (Value.int .i64 0) from HZ.out.res.cell 1); have r2 := (show w9.cell? ⟨w.heap.size, 2, none⟩ = some (Value.int .i64 0) from HZ.out.res.cell 2); have r3 := (show w9.cell? ⟨w.heap.size, 3, none⟩ = some (Value.slice none 0 0) from HZ.out.res.cell 3)
            have rf0 := HZ.out.res.frozen 0; have rf1 := HZ.out.res.frozen 1; have rf2 := HZ.out.res.frozen 2; have rf3 := HZ.out.res.frozen 3
            go_wp2
            exact ⟨undef, rfl, rfl, (show RZ w _ rb qb pb r _ (rzRes true r _) from (((HZ.out.set 0 (.int .i64 r.verdict)).set 1 (.int .i64 r.low)).set 2 (.int .i64 r.high)).set 3 (.slice A ts.length c)), trivial, fun h => absurd rfl h⟩
          refine wpRel_step [65] (by kernel_rfl) (fun L kk w9 vals hk hw hun hcl hdl hT => ?_) ?_
          · have t9 := hT 9 65 (by kernel_rfl) (.inl rfl)
            have HZ := Lib.hid hw; have HUN := Lib.hid hun
            clear hw hun hcl hdl hT
            simp only [fillR, Act.put, List.setIfInBounds_toArray, List.set_cons_succ, List.set_cons_zero]
            rw [show vals 65 = Value.bool (true && eq) from t9]
            clear t9
            go_wp2
            exact ⟨_, rfl, rfl, (show RZ w _ rb qb pb _ tv (rzRes _ _ tv) from by rw [putL_neS (by decide)]; exact HZ.out), trivial, fun _ => rfl⟩
          refine wpRel_end [56, 57, 58, 59, 60, 61, 62, 63, 64, 65, 3] (by kernel_rfl) (fun L w9 vals hl hw hT => ?_)
          have t11 := hT 11 3 (by kernel_rfl) rfl
          rw [hl 10 (by decide)] at hw
          have HZ := Lib.hid hw
          clear hl hw hT
          simp only [fillR, Act.put, List.setIfInBounds_toArray, List.set_cons_succ, List.set_cons_zero]
          rw [show vals 3 = Value.bool (true && eq) from t11]
          clear t11
          have r0 := (show w9.cell? ⟨w.heap.size, 0, none⟩ = some (Value.int .i64 r.verdict) from HZ.out.res.cell 0); have r1 := (show w9.cell? ⟨w.heap.size, 1, none⟩ = some (Value.int .i64 r.low) from HZ.out.res.cell 1); have r2 := (show w9.cell? ⟨w.heap.size, 2, none⟩ = some (Value.int .i64 r.high) from HZ.out.res.cell 2); have r3 := (show w9.cell? ⟨w.heap.size, 3, none⟩ = some tv from HZ.out.res.cell 3)
          have HOF := Lib.hid (own_base HZ.out.own (show w.heap.size ≤ rb + 1 by have := HZ.out.rlow; omega))
          have FIN := Lib.hid (rule_fin (w := w) (w' := w9) (l := l) (r := r) (tv := tv) (ok := true && eq) (fun h => ⟨HOK.out, by have h2 : eq = true := (by simpa using h); rw [HEQ.out] at h2; exact eq_of_beq h2⟩) HOF.out HZ.out.below)
          go_wp2
          exact bodyPost_ret (v := .tuple #[.agg #[.int .i64 r.verdict, .int .i64 r.low, .int .i64 r.high, tv], .bool (true && eq)]) (by simp [results, Tryz.results87, go_sem, r0, r1, r2, r3]) rfl (by have := FIN.out _ _ rfl rfl; simpa using this)
        | false =>
          have HOK := Lib.hid hok
          clear hok
          refine wp_region_rel (rzT qb l r tv false eq) (fun _ => none) (fun L _ w' => RZ w w' rb qb pb r tv (rzRes (L 10) r tv)) (fun _ _ _ => True) (by kernel_rfl) (by kernel_rfl) (show RZ w _ rb qb pb r tv (rzRes false r tv) from HZ13.out.next (Below.refl _ _).drew) (fun i j wa wb u _ _ _ _ h => rzT_any h) ?_
          refine wpRel_step [] (by kernel_rfl) (fun L kk w9 vals hk hw hun hcl hdl hT => ?_) ?_
          · have HZ := Lib.hid hw; have HUN := Lib.hid hun
            clear hw hun hcl hdl hT
            simp only [fillR, Act.put, List.setIfInBounds_toArray, List.set_cons_succ, List.set_cons_zero]
            have y0 := (show w9.cell? ⟨rb, 0, none⟩ = some (Value.int .i64 r.verdict) from HZ.out.rule.cell 0); have y1 := (show w9.cell? ⟨rb, 1, none⟩ = some (Value.int .i64 r.low) from HZ.out.rule.cell 1); have y2 := (show w9.cell? ⟨rb, 2, none⟩ = some (Value.int .i64 r.high) from HZ.out.rule.cell 2); have y3 := (show w9.cell? ⟨rb, 3, none⟩ = some tv from HZ.out.rule.cell 3)
            go_wp2
            exact ⟨_, rfl, rfl, (show RZ w _ rb qb pb _ tv (rzRes _ _ tv) from by rw [putL_neS (by decide)]; exact HZ.out), trivial, fun _ => rfl⟩
          refine wpRel_step [] (by kernel_rfl) (fun L kk w9 vals hk hw hun hcl hdl hT => ?_) ?_
          · have HZ := Lib.hid hw; have HUN := Lib.hid hun
            clear hw hun hcl hdl hT
            simp only [fillR, Act.put, List.setIfInBounds_toArray, List.set_cons_succ, List.set_cons_zero]
            have y0 := (show w9.cell? ⟨pb, 0, none⟩ = some (Value.slice (some ⟨qb, 0, none⟩) 1 1) from HZ.out.pol.cell 0); have y1 := (show w9.cell? ⟨pb, 1, none⟩ = some (Value.int .i64 1) from HZ.out.pol.cell 1)
            go_wp2
            exact ⟨_, rfl, rfl, (show RZ w _ rb qb pb _ tv (rzRes _ _ tv) from by rw [putL_neS (by decide)]; exact HZ.out), trivial, fun _ => rfl⟩
          refine wpRel_step [57] (by kernel_rfl) (fun L kk w9 vals hk hw hun hcl hdl hT => ?_) ?_
          · have t1 := hT 1 57 (by kernel_rfl) (.inl rfl)
            have HZ := Lib.hid hw; have HUN := Lib.hid hun
            clear hw hun hcl hdl hT
            simp only [fillR, Act.put, List.setIfInBounds_toArray, List.set_cons_succ, List.set_cons_zero]
            rw [show vals 57 = Value.agg #[.slice (some ⟨qb, 0, none⟩) 1 1, .int .i64 1] from t1]
            clear t1
            go_wp2_with fail
            refine (PolicyOk_any ⟨[r], 1⟩ _ w9 HZ.out.polIs).mono ?_; rintro e w10 ⟨rfl, hb10⟩
            rw [HOK.out]
            have HZ1 := Lib.hid (HZ.out.next hb10)
            clear hb10
            go_wp2
            exact ⟨_, rfl, rfl, (show RZ w _ rb qb pb _ tv (rzRes _ _ tv) from by rw [putL_neS (by decide)]; exact HZ1.out), trivial, fun _ => rfl⟩
          refine wpRel_step [58] (by kernel_rfl) (fun L kk w9 vals hk hw hun hcl hdl hT => ?_) ?_
          · have t2 := hT 2 58 (by kernel_rfl) (.inl rfl)
            have HZ := Lib.hid hw; have HUN := Lib.hid hun
            clear hw hun hcl hdl hT
            simp only [fillR, Act.put, List.setIfInBounds_toArray, List.set_cons_succ, List.set_cons_zero]
            rw [show vals 58 = Value.bool false from t2]
            clear t2
            go_wp2
            exact ⟨_, rfl, rfl, (show RZ w _ rb qb pb _ tv (rzRes _ _ tv) from by rw [putL_neS (by decide)]; exact HZ.out), trivial, fun _ => rfl⟩
          refine wpRel_step [59] (by kernel_rfl) (fun L kk w9 vals hk hw hun hcl hdl hT => ?_) ?_
          · have t3 := hT 3 59 (by kernel_rfl) (.inl rfl)
            have HZ := Lib.hid hw; have HUN := Lib.hid hun
            clear hw hun hcl hdl hT
            simp only [fillR, Act.put, List.setIfInBounds_toArray, List.set_cons_succ, List.set_cons_zero]
            rw [show vals 59 = Value.bool false from t3]
            clear t3
            go_wp2
            exact ⟨_, rfl, rfl, (show RZ w _ rb qb pb _ tv (rzRes _ _ tv) from by rw [putL_neS (by decide)]; exact HZ.out), trivial, fun _ => fun h => absurd h Bool.false_ne_true⟩
          refine wpRel_step [60, 59] (by kernel_rfl) (fun L kk w9 vals hk hw hun hcl hdl hT => ?_) ?_
          · have t3 := hT 3 59 (by kernel_rfl) (.inl rfl)
            have HZ := Lib.hid hw; have HUN := Lib.hid hun
            clear hw hun hcl hdl hT
            simp only [fillR, Act.put, List.setIfInBounds_toArray, List.set_cons_succ, List.set_cons_zero]
            rw [show vals 59 = Value.bool false from t3]
            clear t3
            go_wp2
            exact ⟨_, rfl, rfl, (show RZ w _ rb qb pb _ tv (rzRes _ _ tv) from by rw [putL_neS (by decide)]; exact HZ.out), trivial, fun _ => fun h => absurd h Bool.false_ne_true⟩
          refine wpRel_step [59] (by kernel_rfl) (fun L kk w9 vals hk hw hun hcl hdl hT => ?_) ?_
          · have t3 := hT 3 59 (by kernel_rfl) (.inl rfl)
            have HZ := Lib.hid hw; have HUN := Lib.hid hun
            clear hw hun hcl hdl hT
            simp only [fillR, Act.put, List.setIfInBounds_toArray, List.set_cons_succ, List.set_cons_zero]
            rw [show vals 59 = Value.bool false from t3]
            clear t3
            go_wp2
            exact ⟨_, rfl, rfl, (show RZ w _ rb qb pb _ tv (rzRes _ _ tv) from by rw [putL_neS (by decide)]; exact HZ.out), trivial, fun _ => fun h => absurd h Bool.false_ne_true⟩
          refine wpRel_step [62, 59] (by kernel_rfl) (fun L kk w9 vals hk hw hun hcl hdl hT => ?_) ?_
          · have t3 := hT 3 59 (by kernel_rfl) (.inl rfl)
            have HZ := Lib.hid hw; have HUN := Lib.hid hun
            clear hw hun hcl hdl hT
            simp only [fillR, Act.put, List.setIfInBounds_toArray, List.set_cons_succ, List.set_cons_zero]
            rw [show vals 59 = Value.bool false from t3]
            clear t3
            go_wp2
            exact ⟨_, rfl, rfl, (show RZ w _ rb qb pb _ tv (rzRes _ _ tv) from by rw [putL_neS (by decide)]; exact HZ.out), trivial, fun _ => fun h => absurd h Bool.false_ne_true⟩
          refine wpRel_step [61, 63, 59] (by kernel_rfl) (fun L kk w9 vals hk hw hun hcl hdl hT => ?_) ?_
          · have t3 := hT 3 59 (by kernel_rfl) (.inl rfl)
            have HZ := Lib.hid hw; have HUN := Lib.hid hun
            clear hw hun hcl hdl hT
            simp only [fillR, Act.put, List.setIfInBounds_toArray, List.set_cons_succ, List.set_cons_zero]
            rw [show vals 59 = Value.bool false from t3]
            clear t3
            go_wp2
            exact ⟨_, rfl, rfl, (show RZ w _ rb qb pb _ tv (rzRes _ _ tv) from by rw [putL_neS (by decide)]; exact HZ.out), trivial, fun _ => fun h => absurd h Bool.false_ne_true⟩
          refine wpRel_step [59, 64] (by kernel_rfl) (fun L kk w9 vals hk hw hun hcl hdl hT => ?_) ?_
          · have t3 := hT 3 59 (by kernel_rfl) (.inl rfl)
            have HZ := Lib.hid hw; have HUN := Lib.hid hun
            clear hw hun hcl hdl hT
            simp only [fillR, Act.put, List.setIfInBounds_toArray, List.set_cons_succ, List.set_cons_zero]
            rw [show vals 59 = Value.bool false from t3]
            clear t3
            go_wp2
            exact ⟨_, rfl, rfl, (show RZ w _ rb qb pb _ tv (rzRes _ _ tv) from by rw [putL_neS (by decide)]; exact HZ.out), trivial, fun _ => rfl⟩
          refine wpRel_step [56] (by kernel_rfl) (fun L kk w9 vals hk hw hun hcl hdl hT => ?_) ?_
          · have t0 := hT 0 56 (by kernel_rfl) (.inl rfl)
            have HZ := Lib.hid hw; have HUN := Lib.hid hun
            clear hw hun hcl hdl hT
            simp only [fillR, Act.put, List.setIfInBounds_toArray, List.set_cons_succ, List.set_cons_zero]
            rw [show vals 56 = Value.agg #[.int .i64 r.verdict, .int .i64 r.low, .int .i64 r.high, tv] from t0]
            clear t0
            obtain ⟨A, c, rfl⟩ := HTV.out
            rw [HUN.out] at HZ
            have r0 := (show w9.cell? ⟨w.heap.size, 0, none⟩ = some (Value.int .i64 0) from HZ.out.res.cell 0); have r1 := (show w9.cell? ⟨w.heap.size, 1, none⟩ = some (Value.int .i64 0) from HZ.out.res.cell 1); have r2 := (show w9.cell? ⟨w.heap.size, 2, none⟩ = some (Value.int .i64 0) from HZ.out.res.cell 2); have r3 := (show w9.cell? ⟨w.heap.size, 3, none⟩ = some (Value.slice none 0 0) from HZ.out.res.cell 3)
            have rf0 := HZ.out.res.frozen 0; have rf1 := HZ.out.res.frozen 1; have rf2 := HZ.out.res.frozen 2; have rf3 := HZ.out.res.frozen 3
            go_wp2
            exact ⟨undef, rfl, rfl, (show RZ w _ rb qb pb r _ (rzRes true r _) from (((HZ.out.set 0 (.int .i64 r.verdict)).set 1 (.int .i64 r.low)).set 2 (.int .i64 r.high)).set 3 (.slice A ts.length c)), trivial, fun h => absurd rfl h⟩
          refine wpRel_step [65] (by kernel_rfl) (fun L kk w9 vals hk hw hun hcl hdl hT => ?_) ?_
          · have t9 := hT 9 65 (by kernel_rfl) (.inl rfl)
            have HZ := Lib.hid hw; have HUN := Lib.hid hun
            clear hw hun hcl hdl hT
            simp only [fillR, Act.put, List.setIfInBounds_toArray, List.set_cons_succ, List.set_cons_zero]
            rw [show vals 65 = Value.bool (false && eq) from t9]
            clear t9
            go_wp2
            exact ⟨_, rfl, rfl, (show RZ w _ rb qb pb _ tv (rzRes _ _ tv) from by rw [putL_neS (by decide)]; exact HZ.out), trivial, fun _ => rfl⟩
          refine wpRel_end [56, 57, 58, 59, 60, 61, 62, 63, 64, 65, 3] (by kernel_rfl) (fun L w9 vals hl hw hT => ?_)
          have t11 := hT 11 3 (by kernel_rfl) rfl
          rw [hl 10 (by decide)] at hw
          have HZ := Lib.hid hw
          clear hl hw hT
          simp only [fillR, Act.put, List.setIfInBounds_toArray, List.set_cons_succ, List.set_cons_zero]
          rw [show vals 3 = Value.bool (false && eq) from t11]
          clear t11
          have r0 := (show w9.cell? ⟨w.heap.size, 0, none⟩ = some (Value.int .i64 r.verdict) from HZ.out.res.cell 0); have r1 := (show w9.cell? ⟨w.heap.size, 1, none⟩ = some (Value.int .i64 r.low) from HZ.out.res.cell 1); have r2 := (show w9.cell? ⟨w.heap.size, 2, none⟩ = some (Value.int .i64 r.high) from HZ.out.res.cell 2); have r3 := (show w9.cell? ⟨w.heap.size, 3, none⟩ = some tv from HZ.out.res.cell 3)
          have HOF := Lib.hid (own_base HZ.out.own (show w.heap.size ≤ rb + 1 by have := HZ.out.rlow; omega))
          have FIN := Lib.hid (rule_fin (w := w) (w' := w9) (l := l) (r := r) (tv := tv) (ok := false && eq) (fun h => absurd h (by simp)) HOF.out HZ.out.below)
          go_wp2
          exact bodyPost_ret (v := .tuple #[.agg #[.int .i64 r.verdict, .int .i64 r.low, .int .i64 r.high, tv], .bool (false && eq)]) (by simp [results, Tryz.results87, go_sem, r0, r1, r2, r3]) rfl (by have := FIN.out _ _ rfl rfl; simpa using this)
end Go.Proofs.YtcomdkmglihdbaaGreatDoor

-- spec's reader of policies on any text.
namespace Go.Proofs.YtcomdkmglihdbaaGreatDoor
open Go.RowKit
set_option linter.unusedSimpArgs false
set_option linter.unusedVariables false

abbrev TPolS : TypeId := 82
theorem nlGo : ∀ (l cur : List UInt8), ((cutGo 10 cur l).map fun x => x ++ [10]).flatten = cur ++ l ++ [10]
  | [], cur => by simp [cutGo]
  | b :: l, cur => by
    unfold cutGo
    split
    · rename_i h
      rw [List.map_cons, List.flatten_cons, nlGo l [], h]; simp
    · rw [nlGo l _]; simp
theorem nl_cut (l : List UInt8) : ((cut 10 l).map fun x => x ++ [10]).flatten = l ++ [10] := nlGo l []
/-- A text whose lines are fine rules, one last line, and none behind it, is a policy's text. -/
theorem polText_of {l : List UInt8} {rs : List Rl} {n : Nat} {last : List UInt8} {els : Int} (hn : (cut 10 l).length = n + 2) (hr : ((cut 10 l).take n).map (fun x => x ++ [10]) = rs.map ruleText) (h1 : (cut 10 l)[n]? = some last) (h2 : (cut 10 l)[n + 1]? = some []) (he : last = [101, 108, 115, 101, 32] ++ verdNm els) : polText ⟨rs, els⟩ = l := by
  have h := nl_cut l
  have e : cut 10 l = (cut 10 l).take n ++ [last] ++ [[]] := by
    apply List.ext_getElem?
    intro i
    by_cases hi : i < n
    · rw [List.append_assoc, List.getElem?_append_left (by simp; omega), List.getElem?_take_of_lt hi]
    · rw [List.append_assoc, List.getElem?_append_right (by simp; omega)]
      have hl : ((cut 10 l).take n).length = n := by simp; omega
      rw [hl]
      by_cases hi1 : i = n
      · subst hi1; simp [h1]
      · by_cases hi2 : i = n + 1
        · subst hi2
          rw [h2]
          rw [show n + 1 - n = 1 by omega]
          rfl
        · rw [List.getElem?_eq_none (by omega), List.getElem?_eq_none (by simp; omega)]
  rw [e] at h
  simp only [List.map_append, List.flatten_append, hr] at h
  simp at h
  have h3 : polText ⟨rs, els⟩ ++ [10] = l ++ [10] := by
    rw [← h, he]
    simp [polText, rulesText]
  exact List.append_cancel_right h3
/-- How the memory stands while a policy is read. -/
structure PQ (w w1 wr : World) (els : Int) (rv : Value) (rs : List Rl) (css : List (List Value)) : Prop where
  r0 : Blk wr w.heap.size TPolS #[.slice none 0 0, .int .i64 0]
  p0 : Blk wr w1.heap.size TPolS #[rv, .int .i64 els]
  low : Below w1.heap.size w1 wr
  first : Below w.heap.size w w1
  after : w.heap.size < w1.heap.size
  own : wr.ownsRow (w1.heap.size + 1) TRulS 4 rv css.length css.flatten
  rules : RulesOwn wr (w1.heap.size + 1) rs css
theorem PQ.next {w w1 wr w2 : World} {els : Int} {rv : Value} {rs : List Rl} {css : List (List Value)} (h : PQ w w1 wr els rv rs css) (hb : Below wr.heap.size wr w2) : PQ w w1 w2 els rv rs css :=
  ⟨h.r0.below hb h.r0.lt, h.p0.below hb h.p0.lt, below_then h.low hb, h.first, h.after, own_below h.own hb, h.rules.imp fun tv n xs ho => own_below ho hb⟩
theorem PQ.all {w w1 wr : World} {els : Int} {rv : Value} {rs : List Rl} {css : List (List Value)} (h : PQ w w1 wr els rv rs css) : Below w.heap.size w wr := below_then h.first h.low
theorem PQ.setEls {w w1 wr : World} {els : Int} {rv : Value} {rs : List Rl} {css : List (List Value)} (h : PQ w w1 wr els rv rs css) (e : Int) : PQ w w1 (wr.setCell ⟨w1.heap.size, 1, none⟩ (.int .i64 e)) e rv rs css :=
  ⟨h.r0.far (show w.heap.size ≠ w1.heap.size by have := h.after; omega) _, h.p0.set_ 1 _, h.low.setCell (p := ⟨w1.heap.size, 1, none⟩) (Nat.le_refl _) _, h.first, h.after, own_lowsetS h.own (Nat.lt_succ_self _), h.rules.imp fun tv n xs ho => own_lowsetS ho (Nat.lt_succ_self _)⟩
theorem PQ.app {w w1 wr w2 : World} {els : Int} {rv v2 : Value} {rs : List Rl} {css : List (List Value)} {r : Rl} {cs : List Value} (h : PQ w w1 wr els rv rs css) (hr : RuleOwn wr (w1.heap.size + 1) r cs) (ho : w2.ownsRow (w1.heap.size + 1) TRulS 4 v2 (css.length + 1) (css ++ [cs]).flatten) (hg : wr.grownBy w2 rv.ownBlock) : PQ w w1 (w2.setCell ⟨w1.heap.size, 0, none⟩ v2) els v2 (rs ++ [r]) (css ++ [cs]) := by
  have haf := h.after
  have hb : Below (w1.heap.size + 1) wr w2 := (Below.refl _ wr).grown hg (by have := h.p0.lt; omega) (fun k hk => (h.own.lt k hk).1)
  have hk : ∀ (tv : Value) (n : Nat) (xs : List Value), wr.ownsRow (w1.heap.size + 1) TTestS 4 tv n xs → (w2.setCell ⟨w1.heap.size, 0, none⟩ v2).ownsRow (w1.heap.size + 1) TTestS 4 tv n xs := fun tv n xs ht =>
    own_lowsetS (ht.kept hg (own_apart ht h.own (by decide))) (Nat.lt_succ_self _)
  refine ⟨(h.r0.below hb (by omega)).far (show w.heap.size ≠ w1.heap.size by omega) _, (h.p0.below hb (by omega)).set_ 0 _, (h.low.trans (hb.mono (Nat.le_succ _))).setCell (p := ⟨w1.heap.size, 0, none⟩) (Nat.le_refl _) _, h.first, haf, ?_, ?_⟩
  · rw [List.length_append]
    exact own_lowsetS ho (Nat.lt_succ_self _)
  · exact (h.rules.imp hk).snoc (let ⟨tv, e, ht⟩ := hr; ⟨tv, e, hk _ _ _ ht⟩)
theorem PQ.rows {w w1 wr : World} {els : Int} {rv : Value} {rs : List Rl} {css : List (List Value)} (h : PQ w w1 wr els rv rs css) : ∀ c ∈ css, c.length = 4 := h.rules.are.rows
/-- What the reader hands back. -/
def PolRd (l : List UInt8) (w : World) (e : Ending) (w' : World) : Prop := ∃ (p : Pol) (v : Value) (at_ : Int), e = .returned (.tuple #[v, .int .i64 at_]) ∧ (at_ = 0 → polOkB p = true ∧ polText p = l) ∧ PolOwn w' w.heap.size p v ∧ Below w.heap.size w w'
theorem PQ.end_ {l : List UInt8} {w w1 wr : World} {els : Int} {rv : Value} {rs : List Rl} {css : List (List Value)} (h : PQ w w1 wr els rv rs css) (at_ : Int) (ha : at_ = 0 → polOkB ⟨rs, els⟩ = true ∧ polText ⟨rs, els⟩ = l) : PolRd l w (.returned (.tuple #[.agg #[rv, .int .i64 els], .int .i64 at_])) ((wr.setCell ⟨w.heap.size, 0, none⟩ rv).setCell ⟨w.heap.size, 1, none⟩ (.int .i64 els)) := by
  have haf := h.after
  have hs : w.heap.size < w1.heap.size + 1 := by omega
  refine ⟨⟨rs, els⟩, _, at_, rfl, ha, ⟨rv, css, rfl, own_base (own_lowsetS (own_lowsetS h.own hs) hs) (by omega), h.rules.imp fun tv n xs ho => own_base (own_lowsetS (own_lowsetS ho hs) hs) (by omega)⟩, ?_⟩
  exact (h.all.setCell (p := ⟨w.heap.size, 0, none⟩) (Nat.le_refl _) _).setCell (p := ⟨w.heap.size, 1, none⟩) (Nat.le_refl _) _
theorem PQ.nought {l : List UInt8} {w w1 wr : World} {els : Int} {rv : Value} {rs : List Rl} {css : List (List Value)} (h : PQ w w1 wr els rv rs css) (at_ : Int) (ha : at_ ≠ 0) : PolRd l w (.returned (.tuple #[.agg #[.slice none 0 0, .int .i64 0], .int .i64 at_])) ((wr.setCell ⟨w.heap.size, 0, none⟩ (.slice none 0 0)).setCell ⟨w.heap.size, 1, none⟩ (.int .i64 0)) := by
  refine ⟨⟨[], 0⟩, _, at_, rfl, fun h => absurd h ha, ⟨_, [], rfl, World.ownsRow_nil _ _ _ _, RulesOwn.nil _ _⟩, ?_⟩
  exact (h.all.setCell (p := ⟨w.heap.size, 0, none⟩) (Nat.le_refl _) _).setCell (p := ⟨w.heap.size, 1, none⟩) (Nat.le_refl _) _

set_option maxRecDepth 100000 in
set_option maxHeartbeats 8000000 in
theorem sPolicyRead_any (l : List UInt8) (w : World) (hs : l.length ≤ 1048576) :
    Calls Tryz.prog 66 #[.string ⟨l.toArray⟩] w (PolRd l w) := by
  obtain ⟨W1, hW1⟩ : ∃ W, W = w.alloc (.cells #[.slice none 0 0, .int .i64 0] TPolS) := ⟨_, rfl⟩
  have bW : Hid (Below w.heap.size w W1) := by rw [hW1]; exact Lib.hid (by go_grown)
  have KR : Hid (Blk W1 w.heap.size TPolS #[.slice none 0 0, .int .i64 0]) := by rw [hW1]; exact Lib.hid (Blk.new _ _ _)
  have HW1 := Lib.hid hW1
  clear hW1
  have hcl := cut_len 10 l
  have hcne := cut_ne 10 l
  obtain ⟨ws, hws⟩ : ∃ ws, ws = cut 10 l := ⟨_, rfl⟩
  have HPL := Lib.hid (show ∀ x ∈ ws, x.length ≤ 1048576 from fun x hx => Nat.le_trans (piece_len 10 l x (by rw [← hws]; exact hx)) hs)
  have HCUT := Lib.hid (show ∀ W : World, Calls Tryz.prog 28 #[.string ⟨l.toArray⟩, .int .u8 10] W fun e w' => ∃ v, e = .returned v ∧ w'.ownsRow W.heap.size 9 1 v ws.length (strs ws).flatten ∧ Below W.heap.size W w' from fun W => by rw [hws]; exact l2Cut_any ⟨l.toArray⟩ 10 W (by show l.toArray.size ≤ _; simp; omega))
  rw [← hws] at hcl hcne
  have HWS := Lib.hid hws
  clear hws
  obtain ⟨n, hn⟩ : ∃ n, ws.length = n + 1 := ⟨ws.length - 1, by have := List.length_pos_iff.2 hcne; omega⟩
  go_enter Tryz.func66, Tryz.ntmps66
  go_wp2_with fail
  rw [← HW1.out]
  refine (HCUT.out W1).mono ?_; rintro e w1 ⟨v1, rfl, ho1, hb1⟩
  obtain ⟨A1, n1, c1, rfl, hA1⟩ := SlA.of_own ho1 (strs_len ws) (strs_rows ws)
  obtain rfl : n1 = ws.length := by have := hA1.len; rw [strs_len] at this; exact this.symm
  have hc1 := hA1.cap
  have hm1 := hA1.max
  unfold maxLen at hm1
  have HA1 := Lib.hid hA1
  obtain ⟨W2, hW2⟩ : ∃ W, W = w1.alloc (.cells #[.slice none 0 0, .int .i64 0] TPolS) := ⟨_, rfl⟩
  have Q2 : Hid (PQ w w1 W2 0 (.slice none 0 0) [] []) := by
    rw [hW2]
    exact Lib.hid ⟨(KR.out.below hb1 KR.out.lt).alloc _, Blk.new _ _ _, by go_grown, below_then bW.out hb1, Nat.lt_of_lt_of_le KR.out.lt hb1.size, World.ownsRow_nil _ _ _ _, RulesOwn.nil _ _⟩
  have HW2 := Lib.hid hW2
  clear ho1 hb1 hA1 hW2 bW KR
  have hni : ((ws.length : Int) - 1) = (n : Int) := by omega
  by_cases h9 : 900 < l.length
  · have h9i : (900 : Int) < l.length := by omega
    have r0 := (show _ = some (Value.slice none 0 0) from Q2.out.r0.cell 0); have r1 := (show _ = some (Value.int .i64 0) from Q2.out.r0.cell 1)
    have rf0 := Q2.out.r0.frozen 0; have rf1 := Q2.out.r0.frozen 1
    have p0 := (show _ = some (Value.slice none 0 0) from Q2.out.p0.cell 0); have p1 := (show _ = some (Value.int .i64 0) from Q2.out.p0.cell 1)
    have HFIN := Lib.hid (Q2.out.nought (l := l) 1 (by omega))
    go_upto_region 4 with (fail)
    rw [← HW2.out]
    go_wp2
    exact bodyPost_ret (v := .tuple #[.agg #[.slice none 0 0, .int .i64 0], .int .i64 1]) (by simp [results, Tryz.results66, go_sem, r0, r1]) rfl HFIN.out
  · have h9i : ¬ (900 : Int) < l.length := by omega
    go_upto_region 4 with (fail)
    rw [← HW2.out]
    go_wp2_with fail
    go_loopw [7] (fun i wr => ∃ (k : Nat) (rs : List Rl) (css : List (List Value)) (rv : Value), i = .int .i64 k ∧ k ≤ 8 ∧ (k + 1 ≤ n ∨ k = 0) ∧ rs.length = k ∧ Hid ((∀ r ∈ rs, ruleOkB r = true) ∧ (ws.take k).map (fun x => x ++ [10]) = rs.map ruleText) ∧ Hid (PQ w w1 wr 0 rv rs css)) (fun i _ => n - (intOf i).toNat)
    case atStart => exact ⟨0, [], [], .slice none 0 0, rfl, by omega, .inr rfl, rfl, Lib.hid ⟨fun r h => (by cases h), (by simp)⟩, Q2⟩
    case round =>
      obtain ⟨k, rs, css, rv, rfl, hk8, hkn, hrl, HR, HQ⟩ := hrel
      clear Q2
      have hcl2 := Lib.hid (show css.length = k by have := HQ.out.rules.1; omega)
      have hz8 := HQ.out.p0.lt
      obtain ⟨A, c, rfl⟩ : ∃ A c, rv = .slice A css.length c := by
        rcases HQ.out.own.2 with ⟨rfl, h0⟩ | ⟨g', cap, cur, rfl, _⟩
        · exact ⟨none, 0, by rw [h0]⟩
        · exact ⟨_, _, rfl⟩
      by_cases hlt : k + 1 < n
      · have hki : (k : Int) < (n : Int) - 1 := by omega
        have hkl : k < ws.length := by omega
        obtain ⟨b1, o1, lk, e6, hbl6, hlk, hcell6⟩ := strs_get HA1.out (k := k) hkl
        subst e6
        have HLK := Lib.hid (HPL.out lk (List.mem_of_getElem? hlk))
        have k6 := hcell6 wr _ HQ.out.low hbl6
        have HL6 := Lib.hid hlk
        clear hcell6 hlk
        go_wp2_with fail
        refine (rdRule_any lk wr HLK.out).mono ?_; rintro e w6 ⟨r, tv, ok, rfl, hok, ho6, hb6⟩
        obtain ⟨A6, c6, rfl⟩ : ∃ A c, tv = .slice A r.tests.length c := by
          rcases ho6.2 with ⟨rfl, h0⟩ | ⟨g', cap, cur, rfl, _⟩
          · exact ⟨none, 0, by rw [h0]⟩
          · exact ⟨_, _, rfl⟩
        obtain ⟨W6, hW6⟩ : ∃ W, W = w6.alloc (.cells #[.int .i64 r.verdict, .int .i64 r.low, .int .i64 r.high, .slice A6 r.tests.length c6] TRulS) := ⟨_, rfl⟩
        have X6 : Hid (Blk W6 w6.heap.size TRulS #[.int .i64 r.verdict, .int .i64 r.low, .int .i64 r.high, .slice A6 r.tests.length c6]) := by rw [hW6]; exact Lib.hid (Blk.new _ _ _)
        have b6 : Below w6.heap.size w6 W6 := by rw [hW6]; go_grown
        have HQ6 := Lib.hid (HQ.out.next (below_then hb6 b6))
        have HO6 := Lib.hid (own_below ho6 b6)
        have hz6 := hb6.size
        have hz7 : w6.heap.size < W6.heap.size := X6.out.lt
        have HW6 := Lib.hid hW6
        have HOK := Lib.hid hok
        clear HQ hW6 ho6 hb6 b6 hok k6
        go_upto_region 10 with (fail)
        rw [← HW6.out]
        cases ok with
        | false =>
          have r0 := (show _ = some (Value.slice none 0 0) from HQ6.out.r0.cell 0); have r1 := (show _ = some (Value.int .i64 0) from HQ6.out.r0.cell 1)
          have rf0 := HQ6.out.r0.frozen 0; have rf1 := HQ6.out.r0.frozen 1
          have HFIN := Lib.hid (HQ6.out.nought (l := l) ((k : Int) + 1) (by omega))
          go_wp2
          exact bodyPost_ret (v := .tuple #[.agg #[.slice none 0 0, .int .i64 0], .int .i64 ((k : Int) + 1)]) (by simp [results, Tryz.results66, go_sem, r0, r1]) rfl HFIN.out
        | true =>
          by_cases hk : 8 ≤ k
          · have hki8 : (8 : Int) ≤ k := by omega
            have r0 := (show _ = some (Value.slice none 0 0) from HQ6.out.r0.cell 0); have r1 := (show _ = some (Value.int .i64 0) from HQ6.out.r0.cell 1)
            have rf0 := HQ6.out.r0.frozen 0; have rf1 := HQ6.out.r0.frozen 1
            have HFIN := Lib.hid (HQ6.out.nought (l := l) ((k : Int) + 1) (by omega))
            go_wp2
            exact bodyPost_ret (v := .tuple #[.agg #[.slice none 0 0, .int .i64 0], .int .i64 ((k : Int) + 1)]) (by simp [results, Tryz.results66, go_sem, r0, r1]) rfl HFIN.out
          · have hki8 : ¬ (8 : Int) ≤ k := by omega
            have e0 := (show _ = some (Value.int .i64 r.verdict) from X6.out.cell 0); have e1 := (show _ = some (Value.int .i64 r.low) from X6.out.cell 1); have e2 := (show _ = some (Value.int .i64 r.high) from X6.out.cell 2); have e3 := (show _ = some (Value.slice A6 r.tests.length c6) from X6.out.cell 3)
            have y0 := (show _ = some (Value.slice A css.length c) from HQ6.out.p0.cell 0)
            have hsx := HQ6.out.p0.lt
            have HN := Lib.hid (own_blk_ne HQ6.out.own HQ6.out.p0 (by decide))
            have HOT := Lib.hid (own_base HO6.out (base' := w1.heap.size + 1) (by omega))
            go_wp2_with (at_builtin; go_must (refine wpList_app1g rfl (.tmp 45) (.tmp 47) _ rfl (w1.heap.size + 1) TRulS Tryz.underlying80 info_RuleM rfl (by omega) (by omega) (.slice A css.length c) css.length css rfl HQ6.out.own rfl (by simp [Value.oneCell']) rfl (by have := hcl2.out; omega) (by omega) ?_); intro v9 w9 hown9 hg9 _; obtain ⟨g9, cap9, rfl, hg9', hg9''⟩ := hown9.form (by omega); have P9 := HQ6.out.p0.grown hg9 (fun e => HN.out e.symm); have p90 := (show _ = some (Value.slice A css.length c) from P9.cell 0); have pf0 := P9.frozen 0)
            refine ⟨⟨k + 1, rs ++ [r], css ++ [[.int .i64 r.verdict, .int .i64 r.low, .int .i64 r.high, .slice A6 r.tests.length c6]], _, by go_num, by omega, by omega, by simp; omega, Lib.hid ⟨fun x hx => ?_, ?_⟩, Lib.hid (HQ6.out.app ⟨_, rfl, HOT.out⟩ hown9 hg9)⟩, by simp [intOf]; omega⟩
            · rcases List.mem_append.1 hx with h | h
              · exact HR.out.1 x h
              · rw [List.mem_singleton] at h
                subst h
                have := (HOK.out rfl).1
                unfold polOkB polShapeB at this
                simp at this
                exact this.1.2
            · rw [List.take_add_one, List.map_append, HR.out.2, HL6.out, List.map_append]
              simp [(HOK.out rfl).2]
      · have hki : ¬ (k : Int) < (n : Int) - 1 := by omega
        by_cases hn0 : n = 0
        · obtain rfl : k = 0 := by omega
          have hn1 : (n : Int) < 1 := by omega
          have r0 := (show _ = some (Value.slice none 0 0) from HQ.out.r0.cell 0); have r1 := (show _ = some (Value.int .i64 0) from HQ.out.r0.cell 1)
          have rf0 := HQ.out.r0.frozen 0; have rf1 := HQ.out.r0.frozen 1
          have HFIN := Lib.hid (HQ.out.nought (l := l) (1) (by omega))
          go_wp2
          exact bodyPost_ret (v := .tuple #[.agg #[.slice none 0 0, .int .i64 0], .int .i64 (1)]) (by simp [results, Tryz.results66, go_sem, r0, r1]) rfl HFIN.out
        · have hn1 : ¬ (n : Int) < 1 := by omega
          obtain rfl : n = k + 1 := by omega
          have hkl : k < ws.length := by omega
          have hkl1 : k + 1 < ws.length := by omega
          obtain ⟨b1, o1, last, e6, hbl6, hlk, hcell6⟩ := strs_get HA1.out (k := k) hkl
          subst e6
          obtain ⟨b2, o2, past, e7, hbl7, hlp, hcell7⟩ := strs_get HA1.out (k := k + 1) hkl1
          obtain ⟨rfl, rfl⟩ : b1 = b2 ∧ o1 = o2 := by simpa using e7
          have HLK := Lib.hid (HPL.out last (List.mem_of_getElem? hlk))
          have HLL := Lib.hid hlk; have HLP := Lib.hid hlp
          have HC7 := Lib.hid hcell7
          have HB7 := Lib.hid hbl6
          have k6 := hcell6 wr _ HQ.out.low hbl6
          clear hcell6 hcell7 hlk hlp e7 hbl7 hn0
          have y1 := (show _ = some (Value.int .i64 0) from HQ.out.p0.cell 1); have q1 := HQ.out.p0.frozen 1
          have hk1 : (k : Int) + 1 - 1 = k := by omega
          by_cases h5 : 5 < last.length
          · have h5i : (5 : Int) < last.length := by omega
            have h5j : (5 : Int) ≤ last.length := by omega
            have h5n : 5 ≤ last.length := by omega
            obtain ⟨y, hy⟩ : ∃ y : List UInt8, (⟨last.toArray⟩ : ByteArray).extract 0 5 = ⟨y.toArray⟩ := ⟨((⟨last.toArray⟩ : ByteArray).extract 0 5).data.toList, rfl⟩
            obtain ⟨z, hz⟩ : ∃ z : List UInt8, (⟨last.toArray⟩ : ByteArray).extract 5 last.length = ⟨z.toArray⟩ := ⟨((⟨last.toArray⟩ : ByteArray).extract 5 last.length).data.toList, rfl⟩
            have HYZ := Lib.hid (show last = y ++ z from by
              have h1 := congrArg (fun (b : ByteArray) => b.data.toList) hy
              have h2 := congrArg (fun (b : ByteArray) => b.data.toList) hz
              simp at h1 h2
              rw [← h1, ← h2]
              exact (List.take_append_drop 5 last).symm.trans (by rw [List.take_of_length_le (l := last.drop 5) (by simp)]))
            cases he : (y == [101, 108, 115, 101, 32]) with
            | false =>
              have r0 := (show _ = some (Value.slice none 0 0) from HQ.out.r0.cell 0); have r1 := (show _ = some (Value.int .i64 0) from HQ.out.r0.cell 1)
              have rf0 := HQ.out.r0.frozen 0; have rf1 := HQ.out.r0.frozen 1
              have HFIN := Lib.hid (HQ.out.nought (l := l) ((k : Int) + 1) (by omega))
              go_wp2
              exact bodyPost_ret (v := .tuple #[.agg #[.slice none 0 0, .int .i64 0], .int .i64 ((k : Int) + 1)]) (by simp [results, Tryz.results66, go_sem, r0, r1]) rfl HFIN.out
            | true =>
              have HY := Lib.hid (eq_of_beq he)
              go_wp2_with fail
              refine (rdVerdict_any z wr).mono ?_; rintro e w7 ⟨ev, rfl, ⟨hev, hnm⟩, hb7⟩
              have HQ7 := Lib.hid (HQ.out.next hb7)
              have y2 := (show _ = some (Value.int .i64 0) from HQ7.out.p0.cell 1); have q2 := HQ7.out.p0.frozen 1
              have HQ8 := Lib.hid (HQ7.out.setEls ev)
              have HNM := Lib.hid hnm
              clear hb7 hnm HQ y1 q1 k6
              obtain ⟨W8, hW8⟩ : ∃ W, W = w7.setCell ⟨w1.heap.size, 1, none⟩ (.int .i64 ev) := ⟨_, rfl⟩
              rw [← hW8] at HQ8
              have HW8 := Lib.hid hW8
              clear hW8
              go_upto_region 18 with (fail)
              rw [← HW8.out]
              clear y2 q2
              have y1 := (show _ = some (Value.int .i64 ev) from HQ8.out.p0.cell 1)
              have y0 := (show _ = some (Value.slice A css.length c) from HQ8.out.p0.cell 0)
              by_cases hz0 : ev = 0
              · subst hz0
                have r0 := (show _ = some (Value.slice none 0 0) from HQ8.out.r0.cell 0); have r1 := (show _ = some (Value.int .i64 0) from HQ8.out.r0.cell 1)
                have rf0 := HQ8.out.r0.frozen 0; have rf1 := HQ8.out.r0.frozen 1
                have HFIN := Lib.hid (HQ8.out.nought (l := l) ((k : Int) + 1) (by omega))
                go_wp2
                exact bodyPost_ret (v := .tuple #[.agg #[.slice none 0 0, .int .i64 0], .int .i64 ((k : Int) + 1)]) (by simp [results, Tryz.results66, go_sem, r0, r1]) rfl HFIN.out
              · have hz0b : (ev == 0) = false := by simpa using hz0
                have k7 := HC7.out W8 _ HQ8.out.low HB7.out
                cases hp : (past == []) with
                | false =>
                  have r0 := (show _ = some (Value.slice none 0 0) from HQ8.out.r0.cell 0); have r1 := (show _ = some (Value.int .i64 0) from HQ8.out.r0.cell 1)
                  have rf0 := HQ8.out.r0.frozen 0; have rf1 := HQ8.out.r0.frozen 1
                  have HFIN := Lib.hid (HQ8.out.nought (l := l) ((k : Int) + 1 + 1) (by omega))
                  go_wp2
                  exact bodyPost_ret (v := .tuple #[.agg #[.slice none 0 0, .int .i64 0], .int .i64 ((k : Int) + 1 + 1)]) (by simp [results, Tryz.results66, go_sem, r0, r1]) rfl HFIN.out
                | true =>
                  have r0 := (show _ = some (Value.slice none 0 0) from HQ8.out.r0.cell 0); have r1 := (show _ = some (Value.int .i64 0) from HQ8.out.r0.cell 1)
                  have rf0 := HQ8.out.r0.frozen 0; have rf1 := HQ8.out.r0.frozen 1
                  have HPT := Lib.hid (show polText ⟨rs, ev⟩ = l from by
                    refine polText_of (n := k) (by rw [← HWS.out]; omega) (by rw [← HWS.out]; exact HR.out.2) (by rw [← HWS.out]; exact HLL.out) (by rw [← HWS.out, HLP.out, eq_of_beq hp]) ?_
                    rw [HYZ.out, HY.out, HNM.out hz0])
                  have HFIN := Lib.hid (HQ8.out.end_ (l := l) 0 (fun _ => ⟨by
                    unfold polOkB polShapeB
                    rw [HPT.out]
                    simp [inB, HR.out.1]
                    refine ⟨⟨⟨by omega, by omega, by omega⟩, HR.out.1⟩, by omega⟩, HPT.out⟩))
                  go_wp2
                  exact bodyPost_ret (v := .tuple #[.agg #[.slice A css.length c, .int .i64 ev], .int .i64 0]) (by simp [results, Tryz.results66, go_sem, r0, r1]) rfl HFIN.out
          · have h5i : ¬ (5 : Int) < last.length := by omega
            have r0 := (show _ = some (Value.slice none 0 0) from HQ.out.r0.cell 0); have r1 := (show _ = some (Value.int .i64 0) from HQ.out.r0.cell 1)
            have rf0 := HQ.out.r0.frozen 0; have rf1 := HQ.out.r0.frozen 1
            have HFIN := Lib.hid (HQ.out.nought (l := l) ((k : Int) + 1) (by omega))
            go_wp2
            exact bodyPost_ret (v := .tuple #[.agg #[.slice none 0 0, .int .i64 0], .int .i64 ((k : Int) + 1)]) (by simp [results, Tryz.results66, go_sem, r0, r1]) rfl HFIN.out
end Go.Proofs.YtcomdkmglihdbaaGreatDoor
