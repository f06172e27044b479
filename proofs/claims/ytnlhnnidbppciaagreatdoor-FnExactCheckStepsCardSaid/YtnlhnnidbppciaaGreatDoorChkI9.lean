/- impl's check: all looks of a rule. -/
import Derived.Test.YtnlhnnidbppciaaGreatDoorChkI8
import Derived.Deep.DeepCutAuto
namespace Go.Proofs.YtnlhnnidbppciaaGreatDoor
open Go.RowKit
set_option linter.unusedSimpArgs false
set_option linter.unusedVariables false

def CkrPost (r : Rl) (w : World) (e : Ending) (w' : World) : Prop :=
  ∃ A n c nb, e = .returned (.agg #[.slice A n c, .int .i64 r.verdict, .bool nb]) ∧ ((nb = true ∧ Never r) ∨ (nb = false ∧ ¬ Never r)) ∧ w'.ownsRow w.heap.size 213 5 (.slice A n c) (looksOf r).length (knR (looksOf r)).flatten ∧ Below w.heap.size w w'

set_option maxRecDepth 100000 in
set_option maxHeartbeats 4000000 in
theorem checkRuleOf_any (r : Rl) (tv : Value) (w : World) (hT : Sl w 4 tv (tsR r.tests)) (hr : RlW r) :
    Calls Tryz.prog 115 #[.agg #[.int .i64 r.verdict, .int .i64 r.low, .int .i64 r.high, tv]] w (CkrPost r w) := by
  obtain ⟨vd, lo, hi, ts⟩ := r
  simp only at hT ⊢
  obtain ⟨⟨l0, l1⟩, ⟨h0, h1⟩, hl, hts⟩ := hr
  simp only at l0 l1 h0 h1 hl hts
  obtain ⟨A, n, c, rfl, hA⟩ := hT
  have hn : ts.length = n := by have := hA.len; rwa [tsR_len] at this
  have hc := hA.cap
  have hm := hA.max
  unfold maxLen at hm
  rw [hn] at hl
  have HL := Lib.hid hn; have HA := Lib.hid hA; have HT := Lib.hid hts
  clear hn hA hts
  obtain ⟨X, hX⟩ : ∃ X, X = ((w.alloc (.cells #[.int .i64 vd, .int .i64 lo, .int .i64 hi, .slice A n c] 99)).alloc (.cells #[.slice none 0 0, .int .i64 0, .bool false] 153)).alloc (.cells #[.slice none 0 0, .int .i64 vd, .bool false] 153) := ⟨_, rfl⟩
  have hbX : Below w.heap.size w X := by rw [hX]; go_grown
  have hzX : X.heap.size = w.heap.size + 1 + 1 + 1 := by rw [hX]; simp
  have BR : Blk X w.heap.size 99 #[.int .i64 vd, .int .i64 lo, .int .i64 hi, .slice A n c] := by rw [hX]; exact ((Blk.new w _ _).alloc _).alloc _
  have BQ : Blk X (w.heap.size + 1) 153 #[.slice none 0 0, .int .i64 0, .bool false] := by
    rw [hX]
    have := (Blk.new (w.alloc (.cells #[.int .i64 vd, .int .i64 lo, .int .i64 hi, .slice A n c] 99)) 153 #[.slice none 0 0, .int .i64 0, .bool false]).alloc (.cells #[.slice none 0 0, .int .i64 vd, .bool false] 153)
    simpa using this
  have BO : Blk X (w.heap.size + 1 + 1) 153 #[.slice none 0 0, .int .i64 vd, .bool false] := by
    rw [hX]
    have := Blk.new ((w.alloc (.cells #[.int .i64 vd, .int .i64 lo, .int .i64 hi, .slice A n c] 99)).alloc (.cells #[.slice none 0 0, .int .i64 0, .bool false] 153)) 153 #[.slice none 0 0, .int .i64 vd, .bool false]
    simpa using this
  have hlX : w.heap.size < X.heap.size := by omega
  have b1 := (show _ = some (Value.int .i64 lo) from BR.cell 1); have b2 := (show _ = some (Value.int .i64 hi) from BR.cell 2)
  have HO0 := Lib.hid (show X.ownsRow (w.heap.size + 1 + 1 + 1) 213 5 (.slice none 0 0) 0 (knR []).flatten from World.ownsRow_nil _ _ _ _)
  have HX := Lib.hid hX; have HBR := Lib.hid BR; have HBQ := Lib.hid BQ; have HBO := Lib.hid BO; have HZ := Lib.hid hzX
  clear hX BR BQ BO hzX
  go_enter Tryz.func115, Tryz.ntmps115
  go_upto_if 15 with (fail)
  rw [← HX.out]
  go_cut [38] (fun s38 wx => ∃ v, Hid (Blk wx (w.heap.size + 1 + 1) 153 #[v, .int .i64 vd, .bool false]) ∧ Hid (wx.ownsRow (w.heap.size + 1 + 1 + 1) 213 5 v (rangeL lo hi).length (knR (rangeL lo hi)).flatten) ∧ Below (w.heap.size + 1 + 1) X wx)
  case first =>
    by_cases h : lo = hi
    · have HR := Lib.hid (show rangeL lo hi = [(⟨0, 4294967295, 1, lo⟩, true)] by simp [rangeL, h])
      have hd : (lo == hi) = true := by simp [h]
      clear h
      go_wp2_with fail
      refine (want_any (w.heap.size + 1 + 1) 0 (.slice none 0 0) (.int .i64 vd) (.bool false) [] (⟨0, 4294967295, 1, lo⟩, true) X HBO.out HO0.out (by omega)).mono ?_; rintro e W2 ⟨rfl, v2, hbW2, hoW2, hlW2⟩
      have HB2 := Lib.hid hbW2; have HO2 := Lib.hid hoW2; clear hbW2 hoW2
      go_wp2
      go_meet
      exact ⟨v2, HB2, Lib.hid (by rw [HR.out]; exact HO2.out), hlW2⟩
    · have hd : (lo == hi) = false := by simp [h]
      by_cases h2 : 0 < lo
      · by_cases h3 : hi < 4294967295
        · have HR := Lib.hid (show rangeL lo hi = [(⟨0, 4294967295, 3, lo - 1⟩, true), (⟨0, 4294967295, 3, hi⟩, false)] by simp [rangeL, h, h2, h3])
          go_wp2_with fail
          refine (want_any (w.heap.size + 1 + 1) 0 (.slice none 0 0) (.int .i64 vd) (.bool false) [] (⟨0, 4294967295, 3, lo - 1⟩, true) X HBO.out HO0.out (by omega)).mono ?_; rintro e W2 ⟨rfl, v2, hbW2, hoW2, hlW2⟩
          have y2 := (show W2.cell? ⟨w.heap.size, 2, none⟩ = some (.int .i64 hi) from (hlW2.cell (p := ⟨w.heap.size, 2, none⟩) (by show w.heap.size < _; omega)).trans b2)
          have HB2 := Lib.hid hbW2; have HO2 := Lib.hid hoW2; clear hbW2 hoW2
          go_wp2_with fail
          refine (want_any (w.heap.size + 1 + 1) 1 v2 (.int .i64 vd) (.bool false) [(⟨0, 4294967295, 3, lo - 1⟩, true)] (⟨0, 4294967295, 3, hi⟩, false) W2 HB2.out HO2.out (by omega)).mono ?_; rintro e W3 ⟨rfl, v3, hbW3, hoW3, hlW3⟩
          have HB3 := Lib.hid hbW3; have HO3 := Lib.hid hoW3; clear hbW3 hoW3
          go_wp2
          go_meet
          exact ⟨v3, HB3, Lib.hid (by rw [HR.out]; exact HO3.out), hlW2.trans hlW3⟩
        · have HR := Lib.hid (show rangeL lo hi = [(⟨0, 4294967295, 3, lo - 1⟩, true)] by simp [rangeL, h, h2, h3])
          go_wp2_with fail
          refine (want_any (w.heap.size + 1 + 1) 0 (.slice none 0 0) (.int .i64 vd) (.bool false) [] (⟨0, 4294967295, 3, lo - 1⟩, true) X HBO.out HO0.out (by omega)).mono ?_; rintro e W2 ⟨rfl, v2, hbW2, hoW2, hlW2⟩
          have y2 := (show W2.cell? ⟨w.heap.size, 2, none⟩ = some (.int .i64 hi) from (hlW2.cell (p := ⟨w.heap.size, 2, none⟩) (by show w.heap.size < _; omega)).trans b2)
          have HB2 := Lib.hid hbW2; have HO2 := Lib.hid hoW2; clear hbW2 hoW2
          go_wp2
          go_meet
          exact ⟨v2, HB2, Lib.hid (by rw [HR.out]; exact HO2.out), hlW2⟩
      · by_cases h3 : hi < 4294967295
        · have HR := Lib.hid (show rangeL lo hi = [(⟨0, 4294967295, 3, hi⟩, false)] by simp [rangeL, h, h2, h3])
          go_wp2_with fail
          refine (want_any (w.heap.size + 1 + 1) 0 (.slice none 0 0) (.int .i64 vd) (.bool false) [] (⟨0, 4294967295, 3, hi⟩, false) X HBO.out HO0.out (by omega)).mono ?_; rintro e W2 ⟨rfl, v2, hbW2, hoW2, hlW2⟩
          have HB2 := Lib.hid hbW2; have HO2 := Lib.hid hoW2; clear hbW2 hoW2
          go_wp2
          go_meet
          exact ⟨v2, HB2, Lib.hid (by rw [HR.out]; exact HO2.out), hlW2⟩
        · have HR := Lib.hid (show rangeL lo hi = [] by simp [rangeL, h, h2, h3])
          go_wp2
          go_meet
          exact ⟨_, HBO, Lib.hid (by rw [HR.out]; exact HO0.out), Below.refl _ _⟩
  case rest =>
    obtain ⟨v, HB, HO, hbx⟩ := hcut
    clear b1 b2 HBO HO0
    have hlx2 : w.heap.size < w.heap.size + 1 + 1 := by omega
    have b3 := (show _ = some (Value.slice A n c) from (hbx.cell (p := ⟨w.heap.size, 3, none⟩) (by show w.heap.size < _; omega)).trans (HBR.out.cell 3))
    have HRL := Lib.hid (rangeL_len lo hi)
    have HBX := Lib.hid hbX
    go_wp2
    go_loopw [38] (fun i wr => ∃ (k : Nat) (v : Value) (nb : Bool), k ≤ n ∧ i = .int .i64 k ∧ Hid (Blk wr (w.heap.size + 1 + 1) 153 #[v, .int .i64 vd, .bool nb]) ∧ Hid (wr.ownsRow (w.heap.size + 1 + 1 + 1) 213 5 v (rangeL lo hi ++ (ts.take k).flatMap testL).length (knR (rangeL lo hi ++ (ts.take k).flatMap testL)).flatten) ∧ Hid ((nb = true ∧ NeverB (ts.take k)) ∨ (nb = false ∧ ¬ NeverB (ts.take k))) ∧ Below (w.heap.size + 1 + 1) X wr) (fun i _ => n - (intOf i).toNat)
    case atStart => exact ⟨0, v, false, Nat.zero_le _, rfl, HB, Lib.hid (by simpa using HO.out), Lib.hid (.inr ⟨rfl, fun h => by obtain ⟨t, ht, _⟩ := h; simp at ht⟩), hbx⟩
    case round =>
      clear HB HO hbx b3
      obtain ⟨k, v, nb, hk, rfl, HB, HO, HN, hb⟩ := hrel
      have hsz := hb.size
      have hzx := HZ.out
      have hz0 : w.heap.size + 1 + 1 < wr.heap.size := by omega
      have hbw := HBX.out.trans (hb.mono (by omega))
      by_cases hlt : k < n
      · obtain ⟨b, off, ⟨tf, tm, tO, tvv⟩, rfl, hab, hgp, hcell⟩ := ts_get HA.out hlt
        obtain ⟨c0, c1, c2, c3⟩ := hcell wr _ hbw hab
        simp only at c0 c1 c2 c3
        obtain ⟨tv0, tv1, htop⟩ := HT.out _ (List.mem_of_getElem? hgp)
        simp only at tv0 tv1 htop
        have HTK := Lib.hid (take_next hgp)
        have HLN := Lib.hid (show (rangeL lo hi ++ (ts.take k).flatMap testL).length ≤ 200 by have h1 := flat_tests_len (ts.take k); have h2 := HRL.out; rw [List.length_append]; have h3 : (ts.take k).length ≤ k := List.length_take_le _ _; omega)
        have hln := HLN.out
        have o2 := (show _ = some (Value.bool nb) from HB.out.cell 2); have of2 := HB.out.frozen 2
        have HKEEP := Lib.hid (show NeverB (ts.take k) → NeverB (ts.take (k + 1)) from fun ⟨t, ht, h⟩ => ⟨t, by rw [HTK.out]; exact List.mem_append_left _ ht, h⟩)
        clear hcell hgp hzx
        by_cases h2 : tO = 2
        · subst h2
          by_cases h0 : tvv = 0
          · subst h0
            have HNX := Lib.hid (show (rangeL lo hi ++ (ts.take (k + 1)).flatMap testL) = (rangeL lo hi ++ (ts.take k).flatMap testL) by rw [HTK.out, List.flatMap_append]; simp [testL])
            have HNE := Lib.hid (show NeverB (ts.take (k + 1)) from ⟨⟨tf, tm, 2, 0⟩, by rw [HTK.out]; simp, rfl, rfl⟩)
            go_wp2
            exact ⟨⟨k + 1, v, true, by omega, by go_num, Lib.hid ((HB.out.set_ 2 (.bool true)).alloc _), Lib.hid (by rw [HNX.out]; exact own_below (ownsRow_setCell_other (a := ⟨w.heap.size + 1 + 1, 2, none⟩) HO.out (fun e => by have := (HO.out.lt _ e).1; simp only at this; omega) _) (by go_grown)), Lib.hid (.inl ⟨rfl, HNE.out⟩), (hb.trans (show Below (w.heap.size + 1 + 1) wr _ by go_grown))⟩, by simp [intOf]; omega⟩
          · have HZT := Lib.hid (show testL ⟨tf, tm, 2, tvv⟩ = [(⟨tf, tm, 3, tvv - 1⟩, false)] by simp [testL, h0])
            have HLK := Lib.hid (looks_next (R := rangeL lo hi) HTK.out HZT.out)
            have HNO := Lib.hid (show (nb = true ∧ NeverB (ts.take (k + 1))) ∨ (nb = false ∧ ¬ NeverB (ts.take (k + 1))) from HN.out.elim (fun h => .inl ⟨h.1, HKEEP.out h.2⟩) (fun h => .inr ⟨h.1, never_next HTK.out h.2 (fun h => h0 h.2)⟩))
            go_wp2_with fail
            refine (want_any (w.heap.size + 1 + 1) _ v (.int .i64 vd) (.bool nb) (rangeL lo hi ++ (ts.take k).flatMap testL) (⟨tf, tm, 3, tvv - 1⟩, false) _ (HB.out.alloc _) (own_below HO.out (by go_grown)) (by omega)).mono ?_; rintro e W2 ⟨rfl, v2, hbW2, hoW2, hlW2⟩
            have HB2 := Lib.hid hbW2; have HO2 := Lib.hid hoW2; clear hbW2 hoW2
            go_wp2
            exact ⟨⟨k + 1, v2, nb, by omega, by go_num, HB2, Lib.hid (by rw [HLK.out, List.length_append]; exact HO2.out), HNO, hb.trans ((show Below (w.heap.size + 1 + 1) wr _ by go_grown).trans hlW2)⟩, by simp [intOf]; omega⟩
        · have HZT := Lib.hid (show testL ⟨tf, tm, tO, tvv⟩ = [(⟨tf, tm, tO, tvv⟩, true)] by simp [testL, h2])
          have HLK := Lib.hid (looks_next (R := rangeL lo hi) HTK.out HZT.out)
          have HNO := Lib.hid (show (nb = true ∧ NeverB (ts.take (k + 1))) ∨ (nb = false ∧ ¬ NeverB (ts.take (k + 1))) from HN.out.elim (fun h => .inl ⟨h.1, HKEEP.out h.2⟩) (fun h => .inr ⟨h.1, never_next HTK.out h.2 (fun h => h2 h.1)⟩))
          go_wp2_with fail
          refine (want_any (w.heap.size + 1 + 1) _ v (.int .i64 vd) (.bool nb) (rangeL lo hi ++ (ts.take k).flatMap testL) (⟨tf, tm, tO, tvv⟩, true) _ (HB.out.alloc _) (own_below HO.out (by go_grown)) (by omega)).mono ?_; rintro e W2 ⟨rfl, v2, hbW2, hoW2, hlW2⟩
          have HB2 := Lib.hid hbW2; have HO2 := Lib.hid hoW2; clear hbW2 hoW2
          go_wp2
          exact ⟨⟨k + 1, v2, nb, by omega, by go_num, HB2, Lib.hid (by rw [HLK.out, List.length_append]; exact HO2.out), HNO, hb.trans ((show Below (w.heap.size + 1 + 1) wr _ by go_grown).trans hlW2)⟩, by simp [intOf]; omega⟩
      · obtain rfl : k = n := by omega
        have HE := Lib.hid (show ts.take k = ts from List.take_of_length_le (by rw [HL.out]; omega))
        rw [HE.out] at HO HN
        obtain ⟨A5, n5, c5, rfl, hS5⟩ := SlA.of_own HO.out (knR_len _) (knR_rows _)
        have d0 := (show _ = some (Value.slice A5 n5 c5) from HB.out.cell 0); have d1 := (show _ = some (Value.int .i64 vd) from HB.out.cell 1); have d2 := (show _ = some (Value.bool nb) from HB.out.cell 2)
        have hq1 : w.heap.size + 1 < X.heap.size := by have := HZ.out; omega
        have BQ := HBQ.out.below hb (by omega)
        have w0 := BQ.frozen 0; have w1 := BQ.frozen 1; have w2 := BQ.frozen 2
        have v0 := (show _ = some (Value.slice none 0 0) from BQ.cell 0); have v1 := (show _ = some (Value.int .i64 0) from BQ.cell 1); have v2 := (show _ = some (Value.bool false) from BQ.cell 2)
        have T1 := (BQ.set_ 0 (.slice A5 n5 c5)).set_ 1 (.int .i64 vd)
        have T2 := T1.set_ 2 (.bool nb)
        have z0 := (show _ = some (Value.slice A5 n5 c5) from T2.cell 0); have z1 := (show _ = some (Value.int .i64 vd) from T2.cell 1); have z2 := (show _ = some (Value.bool nb) from T2.cell 2)
        have HOF := Lib.hid (show ((((wr.setCell ⟨w.heap.size + 1, 0, none⟩ (.slice A5 n5 c5)).setCell ⟨w.heap.size + 1, 1, none⟩ (.int .i64 vd)).setCell ⟨w.heap.size + 1, 2, none⟩ (.bool nb)).ownsRow w.heap.size 213 5 (.slice A5 n5 c5) (looksOf ⟨vd, lo, hi, ts⟩).length (knR (looksOf ⟨vd, lo, hi, ts⟩)).flatten) from by
          have h1 := HO.out
          have hne : ∀ k, (Value.slice A5 n5 c5).ownBlock = some k → k ≠ w.heap.size + 1 := fun k hk => by have := (h1.lt k hk).1; omega
          exact own_base (ownsRow_setCell_other (a := ⟨w.heap.size + 1, 2, none⟩) (ownsRow_setCell_other (a := ⟨w.heap.size + 1, 1, none⟩) (ownsRow_setCell_other (a := ⟨w.heap.size + 1, 0, none⟩) h1 (fun e => hne _ e rfl) _) (fun e => hne _ e rfl) _) (fun e => hne _ e rfl) _) (by omega))
        have HBF := Lib.hid (show Below w.heap.size w (((wr.setCell ⟨w.heap.size + 1, 0, none⟩ (.slice A5 n5 c5)).setCell ⟨w.heap.size + 1, 1, none⟩ (.int .i64 vd)).setCell ⟨w.heap.size + 1, 2, none⟩ (.bool nb)) from ((hbw.setCell (p := ⟨w.heap.size + 1, 0, none⟩) (by show w.heap.size ≤ w.heap.size + 1; omega) _).setCell (p := ⟨w.heap.size + 1, 1, none⟩) (by show w.heap.size ≤ w.heap.size + 1; omega) _).setCell (p := ⟨w.heap.size + 1, 2, none⟩) (by show w.heap.size ≤ w.heap.size + 1; omega) _)
        clear HB HO hS5 BQ T1 T2 hb hbw
        go_wp2
        refine bodyPost_ret (v := .agg #[.slice A5 n5 c5, .int .i64 vd, .bool nb]) (by simp [results, Tryz.results115, go_sem, z0, z1, z2]) rfl ?_
        exact ⟨_, _, _, nb, rfl, HN.out, HOF.out, HBF.out⟩
end Go.Proofs.YtnlhnnidbppciaaGreatDoor
