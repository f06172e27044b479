/- impl.GraphWays and spec.GraphWays: both are how many ways there are, a million at most counted at any point. -/
import Derived.Test.YtjkgnepbmeekhaaGraphMost
namespace Go.Proofs.Ytjkgnepbmeekhaa
open Go.RowKit
set_option linter.unusedSimpArgs false
set_option linter.unusedVariables false

theorem rowOf_mid (a : Array Value) (k : Nat) (y x : Value) : ((a.setIfInBounds k x).setIfInBounds k y) = a.setIfInBounds k y := Array.setIfInBounds_setIfInBounds ..

def waysF (ms : List Int) (p : Pt) : Int := if p.op = 0 then 1 else min ((ms[p.yes.toNat]?).getD 0 + (ms[p.no.toNat]?).getD 0) 1000000
def waysTo (g : List Pt) (k : Nat) : List Int := tallyTo waysF g k
def graphWays (g : List Pt) : Int := ((waysTo g g.length)[g.length - 1]?).getD 0

def inMill (ms : List Int) : Prop := ∀ (j : Nat) (x : Int), ms[j]? = some x → 1 ≤ x ∧ x ≤ 1000000
theorem inMill_getD {ms : List Int} (h : inMill ms) {j : Nat} (hj : j < ms.length) : 1 ≤ (ms[j]?).getD 0 ∧ (ms[j]?).getD 0 ≤ 1000000 := by
  rw [List.getElem?_eq_getElem hj]
  exact h j _ (List.getElem?_eq_getElem hj)
theorem inMill_snoc {ms : List Int} {x : Int} (h : inMill ms) (h0 : 1 ≤ x) (h1 : x ≤ 1000000) : inMill (ms ++ [x]) := by
  intro j y hj
  by_cases hlt : j < ms.length
  · rw [List.getElem?_append_left hlt] at hj; exact h j y hj
  · rw [List.getElem?_append_right (by omega)] at hj
    have e : j - ms.length = 0 := by
      have := (List.getElem?_eq_some_iff.1 hj).1
      simp at this; omega
    rw [e] at hj
    simp at hj; subst hj; exact ⟨h0, h1⟩
theorem inMill_nil : inMill [] := fun j x h => by simp at h

set_option maxHeartbeats 1000000 in
theorem GraphWays_ok (v : Value) (g : List Pt) (w : World) (hs : Sl w 7 v (g.map Pt.cells)) (hg : graphOk g) :
    Calls Try.prog 6 #[v] w fun e w' => e = .returned (.int .i64 (graphWays g)) ∧ Below w.heap.size w w' := by
  have hG := GraphOk_any v g
  obtain ⟨A, n, c, rfl, hA⟩ := hs
  have hl : g.length = n := by have := hA.len; simpa using this
  have hc := hA.cap
  have hm := hA.max
  unfold maxLen at hm
  have h1 : 1 ≤ n ∧ n ≤ 120 := by rw [← hl]; exact hg.1
  obtain ⟨h1, h2⟩ := h1
  have hmk := fun W => run_make_row' (P := Try.prog) 28 3 (.int .i64 0) 8 Try.underlying28 info_int rfl .i64 .i64 n (by omega) (by omega) W
  have hgb : graphOkB g = true := graphOkB_iff.2 hg
  have HG := Lib.hid hG; have HL := Lib.hid hl; have HO := Lib.hid hg; clear hG hl hg
  go_enter Try.func6, Try.ntmps6
  go_wp2_with (go_at_call 9; refine (HG.out _ ⟨_, _, _, rfl, hA⟩).mono ?_; rintro e w1 ⟨rfl, hb1⟩)
  have hsz1 := hb1.size
  go_loopw [14] (fun i wr => ∃ k : Nat, k ≤ n ∧ i = .int .i64 k ∧ inMill (waysTo g k) ∧ Blk wr w1.heap.size 3 (rowOf (waysTo g k) n) ∧ Below w1.heap.size w1 wr) (fun i _ => n - (intOf i).toNat)
  case atStart =>
    refine ⟨0, Nat.zero_le _, rfl, ?_, ?_, ?_⟩
    · unfold waysTo; rw [tallyTo_zero]; exact inMill_nil
    · unfold waysTo; rw [tallyTo_zero, ← rowOf_zero]; exact Blk.new _ _ _
    · go_grown
  case round =>
    obtain ⟨k, hk, rfl, hup, hbk, hb⟩ := hrel
    have hsz := hb.size
    have hblt := hbk.lt
    by_cases hlt : k < n
    · obtain ⟨b, off, p, rfl, hab, hgp, hcell⟩ := pts_get hA hlt
      have hpo := (HO.out).2 k p hgp
      have hms : (waysTo g k).length = k := tallyTo_len _ _ _ (by rw [HL.out]; omega)
      have hsucc := tallyTo_succ waysF g k p hgp
      obtain ⟨pv, pf, pm, po, pl, py, pn⟩ := p
      obtain ⟨c0, c1, c2, c3, c4, c5, c6⟩ := hcell wr _ (below_then hb1 hb) hab
      simp only at c0 c1 c2 c3 c4 c5 c6
      unfold ptOk at hpo
      simp only at hpo
      have d2 : wr.cell? ⟨w1.heap.size, k, none⟩ = some (.int .i64 (((waysTo g k)[k]?).getD 0)) := (hbk.cell k).trans (rowOf_get _ _ _ (by omega))
      have f2 := hbk.frozen k
      by_cases hop : po = 0
      · subst hop
        have HS := Lib.hid hsucc; have HM := Lib.hid hms; have HP := Lib.hid hgp; have HB := Lib.hid hbk; clear hsucc hms hgp hcell hbk hpo
        go_wp2
        have hs : waysTo g (k + 1) = waysTo g k ++ [1] := HS.out.trans (by simp [waysF, waysTo])
        refine ⟨⟨k + 1, by omega, by go_num, ?_, ?_, by go_grown⟩, by simp [intOf]; omega⟩
        · rw [hs]; exact inMill_snoc hup (by omega) (by omega)
        · have hr := rowOf_set1 (waysTo g k) n k HM.out 1 (by omega)
          rw [hs, ← hr]; exact (HB.out.set_ k _).alloc _
      · have hnz : (po == 0) = false := by simp [hop]
        obtain ⟨y, rfl⟩ := Int.eq_ofNat_of_zero_le (show 0 ≤ py by omega)
        obtain ⟨o, rfl⟩ := Int.eq_ofNat_of_zero_le (show 0 ≤ pn by omega)
        have d0 : wr.cell? ⟨w1.heap.size, y, none⟩ = some (.int .i64 (((waysTo g k)[y]?).getD 0)) := (hbk.cell y).trans (rowOf_get _ _ _ (by omega))
        have d1 : wr.cell? ⟨w1.heap.size, o, none⟩ = some (.int .i64 (((waysTo g k)[o]?).getD 0)) := (hbk.cell o).trans (rowOf_get _ _ _ (by omega))
        have y1 : (y : Int) < (n : Int) := by omega
        have o1 : (o : Int) < (n : Int) := by omega
        have yk : y < k := by omega
        have ok : o < k := by omega
        have y2 : y < n := by omega
        have o2 : o < n := by omega
        have u0 := inMill_getD hup (j := y) (by omega)
        have u1 := inMill_getD hup (j := o) (by omega)
        have HS := Lib.hid hsucc; have HM := Lib.hid hms; have HP := Lib.hid hgp; have HB := Lib.hid hbk; clear hsucc hms hgp hcell hbk hpo
        have hs : waysTo g (k + 1) = waysTo g k ++ [min ((waysTo g k)[y]?.getD 0 + (waysTo g k)[o]?.getD 0) 1000000] := HS.out.trans (by simp [waysF, waysTo, hop])
        have HS2 := Lib.hid hs; clear hs HS
        go_wp2
        go_region
        go_wp2
        refine ⟨⟨k + 1, by omega, by go_num, by rw [HS2.out]; exact inMill_snoc hup (by omega) (by omega), ?_, by go_grown⟩, by simp [intOf]; omega⟩
        have hr := rowOf_set2 (waysTo g k) n k HM.out 1 (min ((waysTo g k)[y]?.getD 0 + (waysTo g k)[o]?.getD 0) 1000000) (by omega)
        rw [HS2.out, ← hr]
        exact (((HB.out.set_ k _).set_ k _).alloc _).drew
    · obtain rfl : k = n := by omega
      have d2 : wr.cell? ⟨w1.heap.size, k - 1, none⟩ = some (.int .i64 (((waysTo g k)[k - 1]?).getD 0)) := (hbk.cell _).trans (rowOf_get _ _ _ (by omega))
      have HB := Lib.hid hbk; clear hbk
      go_wp2
      go_ret
      refine ⟨ret_int ?_, below_then hb1 hb⟩
      unfold graphWays
      rw [HL.out]

set_option maxHeartbeats 1000000 in
theorem sGraphWays_ok (v : Value) (g : List Pt) (w : World) (hs : Sl w 7 v (g.map Pt.cells)) (hg : graphOk g) :
    Calls Try.prog 8 #[v] w fun e w' => e = .returned (.int .i64 (graphWays g)) ∧ Below w.heap.size w w' := by
  have hG := sGraphOk_any v g
  obtain ⟨A, n, c, rfl, hA⟩ := hs
  have hl : g.length = n := by have := hA.len; simpa using this
  have hc := hA.cap
  have hm := hA.max
  unfold maxLen at hm
  have h1 : 1 ≤ n ∧ n ≤ 120 := by rw [← hl]; exact hg.1
  obtain ⟨h1, h2⟩ := h1
  have hmk := fun W => run_make_row' (P := Try.prog) 28 3 (.int .i64 0) 8 Try.underlying28 info_int rfl .i64 .i64 n (by omega) (by omega) W
  have hgb : graphOkB g = true := graphOkB_iff.2 hg
  have HG := Lib.hid hG; have HL := Lib.hid hl; have HO := Lib.hid hg; clear hG hl hg
  go_enter Try.func8, Try.ntmps8
  go_wp2_with (go_at_call 10; refine (HG.out _ ⟨_, _, _, rfl, hA⟩).mono ?_; rintro e w1 ⟨rfl, hb1⟩)
  have hsz1 := hb1.size
  go_loopw [4] (fun i wr => ∃ k : Nat, k ≤ n ∧ i = .int .i64 k ∧ inMill (waysTo g k) ∧ Blk wr w1.heap.size 3 (rowOf (waysTo g k) n) ∧ Below w1.heap.size w1 wr) (fun i _ => n - (intOf i).toNat)
  case atStart =>
    refine ⟨0, Nat.zero_le _, rfl, ?_, ?_, ?_⟩
    · unfold waysTo; rw [tallyTo_zero]; exact inMill_nil
    · unfold waysTo; rw [tallyTo_zero, ← rowOf_zero]; exact Blk.new _ _ _
    · go_grown
  case round =>
    obtain ⟨k, hk, rfl, hup, hbk, hb⟩ := hrel
    have hsz := hb.size
    have hblt := hbk.lt
    by_cases hlt : k < n
    · obtain ⟨b, off, p, rfl, hab, hgp, hcell⟩ := pts_get hA hlt
      have hpo := (HO.out).2 k p hgp
      have hms : (waysTo g k).length = k := tallyTo_len _ _ _ (by rw [HL.out]; omega)
      have hsucc := tallyTo_succ waysF g k p hgp
      obtain ⟨pv, pf, pm, po, pl, py, pn⟩ := p
      obtain ⟨c0, c1, c2, c3, c4, c5, c6⟩ := hcell wr _ (below_then hb1 hb) hab
      simp only at c0 c1 c2 c3 c4 c5 c6
      unfold ptOk at hpo
      simp only at hpo
      have d2 : wr.cell? ⟨w1.heap.size, k, none⟩ = some (.int .i64 (((waysTo g k)[k]?).getD 0)) := (hbk.cell k).trans (rowOf_get _ _ _ (by omega))
      have f2 := hbk.frozen k
      by_cases hop : po = 0
      · subst hop
        have HS := Lib.hid hsucc; have HM := Lib.hid hms; have HP := Lib.hid hgp; have HB := Lib.hid hbk; clear hsucc hms hgp hcell hbk hpo
        go_wp2
        have hs : waysTo g (k + 1) = waysTo g k ++ [1] := HS.out.trans (by simp [waysF, waysTo])
        refine ⟨⟨k + 1, by omega, by go_num, ?_, ?_, by go_grown⟩, by simp [intOf]; omega⟩
        · rw [hs]; exact inMill_snoc hup (by omega) (by omega)
        · have hr := rowOf_set1 (waysTo g k) n k HM.out 1 (by omega)
          rw [hs, ← hr]; exact HB.out.set_ k _
      · have hnz : 0 < po := by omega
        obtain ⟨y, rfl⟩ := Int.eq_ofNat_of_zero_le (show 0 ≤ py by omega)
        obtain ⟨o, rfl⟩ := Int.eq_ofNat_of_zero_le (show 0 ≤ pn by omega)
        have d0 : wr.cell? ⟨w1.heap.size, y, none⟩ = some (.int .i64 (((waysTo g k)[y]?).getD 0)) := (hbk.cell y).trans (rowOf_get _ _ _ (by omega))
        have d1 : wr.cell? ⟨w1.heap.size, o, none⟩ = some (.int .i64 (((waysTo g k)[o]?).getD 0)) := (hbk.cell o).trans (rowOf_get _ _ _ (by omega))
        have y1 : (y : Int) < (n : Int) := by omega
        have o1 : (o : Int) < (n : Int) := by omega
        have k1 : (k : Int) < (n : Int) := by omega
        have yk : y < k := by omega
        have ok : o < k := by omega
        have y2 : y < n := by omega
        have o2 : o < n := by omega
        have u0 := inMill_getD hup (j := y) (by omega)
        have u1 := inMill_getD hup (j := o) (by omega)
        have HS := Lib.hid hsucc; have HM := Lib.hid hms; have HP := Lib.hid hgp; have HB := Lib.hid hbk; clear hsucc hms hgp hcell hbk hpo
        have hs : waysTo g (k + 1) = waysTo g k ++ [min ((waysTo g k)[y]?.getD 0 + (waysTo g k)[o]?.getD 0) 1000000] := HS.out.trans (by simp [waysF, waysTo, hop])
        have HS2 := Lib.hid hs; clear hs HS
        go_wp2
        go_region
        go_wp2
        all_goals refine ⟨⟨k + 1, by omega, by go_num, by rw [HS2.out]; exact inMill_snoc hup (by omega) (by omega), ?_, by go_grown⟩, by simp [intOf]; omega⟩
        · have hr := rowOf_set2 (waysTo g k) n k HM.out 1 1000000 (by omega)
          rw [HS2.out, show min ((waysTo g k)[y]?.getD 0 + (waysTo g k)[o]?.getD 0) 1000000 = 1000000 from by omega, ← hr, ← rowOf_mid ((rowOf (waysTo g k) n).setIfInBounds k (.int .i64 1)) k (.int .i64 1000000) (.int .i64 ((waysTo g k)[y]?.getD 0 + (waysTo g k)[o]?.getD 0))]
          exact (((HB.out.set_ k _).set_ k _).set_ k _).drew
        · have hr := rowOf_set2 (waysTo g k) n k HM.out 1 ((waysTo g k)[y]?.getD 0 + (waysTo g k)[o]?.getD 0) (by omega)
          rw [HS2.out, show min ((waysTo g k)[y]?.getD 0 + (waysTo g k)[o]?.getD 0) 1000000 = (waysTo g k)[y]?.getD 0 + (waysTo g k)[o]?.getD 0 from by omega, ← hr]
          exact ((HB.out.set_ k _).set_ k _).drew
    · obtain rfl : k = n := by omega
      have d2 : wr.cell? ⟨w1.heap.size, k - 1, none⟩ = some (.int .i64 (((waysTo g k)[k - 1]?).getD 0)) := (hbk.cell _).trans (rowOf_get _ _ _ (by omega))
      have HB := Lib.hid hbk; clear hbk
      go_wp2
      go_ret
      refine ⟨ret_int ?_, below_then hb1 hb⟩
      unfold graphWays
      rw [HL.out]

theorem GraphWays_no (v : Value) (g : List Pt) (w : World) (hs : Sl w 7 v (g.map Pt.cells)) (hg : ¬ graphOk g) :
    Calls Try.prog 6 #[v] w fun e w' => e = .returned (.int .i64 0) ∧ Below w.heap.size w w' := by
  have hgb : graphOkB g = false := by rw [← Bool.not_eq_true, graphOkB_iff]; exact hg
  have HG := Lib.hid (GraphOk_any v g w hs)
  go_enter Try.func6, Try.ntmps6
  go_wp2_with (go_at_call 9; refine (HG.out).mono ?_; rintro e w1 ⟨rfl, hb1⟩)
  go_ret
  exact ⟨rfl, hb1⟩
theorem sGraphWays_no (v : Value) (g : List Pt) (w : World) (hs : Sl w 7 v (g.map Pt.cells)) (hg : ¬ graphOk g) :
    Calls Try.prog 8 #[v] w fun e w' => e = .returned (.int .i64 0) ∧ Below w.heap.size w w' := by
  have hgb : graphOkB g = false := by rw [← Bool.not_eq_true, graphOkB_iff]; exact hg
  have HG := Lib.hid (sGraphOk_any v g w hs)
  go_enter Try.func8, Try.ntmps8
  go_wp2_with (go_at_call 10; refine (HG.out).mono ?_; rintro e w1 ⟨rfl, hb1⟩)
  go_ret
  exact ⟨rfl, hb1⟩

/-- What both GraphWays return. -/
noncomputable def waysOf (g : List Pt) : Int := @ite _ (graphOk g) (Classical.propDecidable _) (graphWays g) 0
theorem GraphWays_any (v : Value) (g : List Pt) (w : World) (hs : Sl w 7 v (g.map Pt.cells)) :
    Calls Try.prog 6 #[v] w fun e w' => e = .returned (.int .i64 (waysOf g)) ∧ Below w.heap.size w w' := by
  unfold waysOf
  by_cases h : graphOk g
  · rw [if_pos h]; exact GraphWays_ok v g w hs h
  · rw [if_neg h]; exact GraphWays_no v g w hs h
theorem sGraphWays_any (v : Value) (g : List Pt) (w : World) (hs : Sl w 7 v (g.map Pt.cells)) :
    Calls Try.prog 8 #[v] w fun e w' => e = .returned (.int .i64 (waysOf g)) ∧ Below w.heap.size w w' := by
  unfold waysOf
  by_cases h : graphOk g
  · rw [if_pos h]; exact sGraphWays_ok v g w hs h
  · rw [if_neg h]; exact sGraphWays_no v g w hs h
end Go.Proofs.Ytjkgnepbmeekhaa
