/- impl.GraphMost and spec.GraphMost: both are how many looks the longest way has. -/
import Derived.Test.YtjkgnepbmeekhaaGraphOk
import Derived.Lib.MinMax
import Derived.BigRegion
import Derived.Deep.OwnRows
namespace Go.Proofs.Ytjkgnepbmeekhaa
open Go.RowKit
set_option linter.unusedSimpArgs false
set_option linter.unusedVariables false

/-- What is reckoned place by place: one number more for each point, from those ahead. -/
def tally (f : List Int → Pt → Int) : List Int → List Pt → List Int
  | acc, [] => acc
  | acc, p :: g => tally f (acc ++ [f acc p]) g
theorem tally_snoc (f : List Int → Pt → Int) : ∀ (g : List Pt) (acc : List Int) (p : Pt), tally f acc (g ++ [p]) = tally f acc g ++ [f (tally f acc g) p]
  | [], acc, p => rfl
  | q :: g, acc, p => tally_snoc f g _ p
theorem tally_len (f : List Int → Pt → Int) : ∀ (g : List Pt) (acc : List Int), (tally f acc g).length = acc.length + g.length
  | [], acc => rfl
  | q :: g, acc => by rw [tally, tally_len f g]; simp; omega
def tallyTo (f : List Int → Pt → Int) (g : List Pt) (k : Nat) : List Int := tally f [] (g.take k)
theorem tallyTo_zero (f : List Int → Pt → Int) (g : List Pt) : tallyTo f g 0 = [] := by simp [tallyTo, tally]
theorem tallyTo_succ (f : List Int → Pt → Int) (g : List Pt) (k : Nat) (p : Pt) (h : g[k]? = some p) : tallyTo f g (k + 1) = tallyTo f g k ++ [f (tallyTo f g k) p] := by
  unfold tallyTo
  rw [List.take_add_one, h]
  exact tally_snoc f _ _ p
theorem tallyTo_len (f : List Int → Pt → Int) (g : List Pt) (k : Nat) (h : k ≤ g.length) : (tallyTo f g k).length = k := by
  unfold tallyTo
  rw [tally_len]; simp; omega

/-- The cells of a row of n ints of which some are reckoned. -/
def rowOf (ms : List Int) (n : Nat) : Array Value := (ms.map (Value.int .i64) ++ List.replicate (n - ms.length) (Value.int .i64 0)).toArray
theorem rowOf_zero (n : Nat) : madeCells #[.int .i64 0] n = rowOf [] n := by
  apply Array.ext'
  rw [toList_madeCells_one]
  simp [rowOf]
theorem rowOf_get (ms : List Int) (n j : Nat) (h : j < n) : (rowOf ms n)[j]? = some (.int .i64 ((ms[j]?).getD 0)) := by
  unfold rowOf
  by_cases hj : j < ms.length
  · simp [List.getElem?_append, hj]
  · simp only [List.getElem?_toArray]
    rw [List.getElem?_append_right (by simp; omega)]
    simp [List.getElem?_replicate, List.getElem?_eq_none (Nat.not_lt.1 hj)]
    omega
theorem rowOf_set (ms : List Int) (n : Nat) (x : Int) (h : ms.length < n) : (rowOf ms n).setIfInBounds ms.length (.int .i64 x) = rowOf (ms ++ [x]) n := by
  apply Array.ext'
  unfold rowOf
  have e : n - ms.length = (n - (ms.length + 1)) + 1 := by omega
  simp only [List.setIfInBounds_toArray, List.map_append, List.length_append, List.map_cons, List.map_nil, List.length_cons, List.length_nil, Nat.zero_add, List.append_assoc, List.singleton_append]
  rw [e, List.replicate_succ]
  rw [List.set_append_right _ _ (by simp)]
  simp

theorem rowOf_set1 (ms : List Int) (n k : Nat) (hk : ms.length = k) (x : Int) (h : k < n) : (rowOf ms n).setIfInBounds k (.int .i64 x) = rowOf (ms ++ [x]) n := by
  subst hk; exact rowOf_set ms n x h
theorem rowOf_set2 (ms : List Int) (n k : Nat) (hk : ms.length = k) (y x : Int) (h : k < n) : ((rowOf ms n).setIfInBounds k (.int .i64 y)).setIfInBounds k (.int .i64 x) = rowOf (ms ++ [x]) n := by
  rw [Array.setIfInBounds_setIfInBounds]; exact rowOf_set1 ms n k hk x h
theorem rowOf_snoc0 (ms : List Int) (n : Nat) (h : ms.length < n) : rowOf (ms ++ [0]) n = rowOf ms n := by
  unfold rowOf
  have e : n - ms.length = (n - (ms.length + 1)) + 1 := by omega
  simp only [List.map_append, List.length_append, List.map_cons, List.map_nil, List.length_cons, List.length_nil, Nat.zero_add, List.append_assoc, List.singleton_append]
  rw [e, List.replicate_succ]

def mostF (ms : List Int) (p : Pt) : Int := if p.op = 0 then 0 else 1 + max ((ms[p.yes.toNat]?).getD 0) ((ms[p.no.toNat]?).getD 0)
def mostTo (g : List Pt) (k : Nat) : List Int := tallyTo mostF g k
def graphMost (g : List Pt) : Int := ((mostTo g g.length)[g.length - 1]?).getD 0

/-- Each number that is reckoned is from 0 on, and at most its place. -/
def upTo (ms : List Int) : Prop := ∀ (j : Nat) (x : Int), ms[j]? = some x → 0 ≤ x ∧ x ≤ j
theorem upTo_getD {ms : List Int} (h : upTo ms) (j : Nat) : 0 ≤ (ms[j]?).getD 0 ∧ (ms[j]?).getD 0 ≤ j := by
  cases hj : ms[j]? with
  | none => simp
  | some x => exact h j x hj
theorem upTo_snoc {ms : List Int} {x : Int} (h : upTo ms) (h0 : 0 ≤ x) (h1 : x ≤ ms.length) : upTo (ms ++ [x]) := by
  intro j y hj
  by_cases hlt : j < ms.length
  · rw [List.getElem?_append_left hlt] at hj; exact h j y hj
  · rw [List.getElem?_append_right (by omega)] at hj
    have e : j = ms.length := by
      have := (List.getElem?_eq_some_iff.1 hj).1
      simp at this; omega
    subst e
    simp at hj; subst hj; exact ⟨h0, h1⟩

set_option maxHeartbeats 1000000 in
theorem GraphMost_ok (v : Value) (g : List Pt) (w : World) (hs : Sl w 7 v (g.map Pt.cells)) (hg : graphOk g) :
    Calls Try.prog 5 #[v] w fun e w' => e = .returned (.int .i64 (graphMost g)) ∧ Below w.heap.size w w' := by
  have hG := GraphOk_any v g
  obtain ⟨A, n, c, rfl, hA⟩ := hs
  have hl : g.length = n := by have := hA.len; simpa using this
  have hc := hA.cap
  have hm := hA.max
  unfold maxLen at hm
  have h1 : 1 ≤ n ∧ n ≤ 120 := by rw [← hl]; exact hg.1
  obtain ⟨h1, h2⟩ := h1
  have hmk := fun W => run_make_row' (P := Try.prog) 28 3 (.int .i64 0) 8 Try.underlying28 info_int rfl .i64 .i64 n (by omega) (by omega) W
  have hgb : graphOkB g = true := graphOkB_iff.2 hg
  have HG := Lib.hid hG; have HL := Lib.hid hl; have HO := Lib.hid hg; clear hG hl hg
  go_enter Try.func5, Try.ntmps5
  go_wp2_with (go_at_call 9; refine (HG.out _ ⟨_, _, _, rfl, hA⟩).mono ?_; rintro e w1 ⟨rfl, hb1⟩)
  have hsz1 := hb1.size
  go_loopw [14] (fun i wr => ∃ k : Nat, k ≤ n ∧ i = .int .i64 k ∧ upTo (mostTo g k) ∧ Blk wr w1.heap.size 3 (rowOf (mostTo g k) n) ∧ Below w1.heap.size w1 wr) (fun i _ => n - (intOf i).toNat)
  case atStart =>
    refine ⟨0, Nat.zero_le _, rfl, ?_, ?_, ?_⟩
    · unfold mostTo; rw [tallyTo_zero]; intro j x h; simp at h
    · unfold mostTo; rw [tallyTo_zero, ← rowOf_zero]; exact Blk.new _ _ _
    · go_grown
  case round =>
    obtain ⟨k, hk, rfl, hup, hbk, hb⟩ := hrel
    have hsz := hb.size
    have hblt := hbk.lt
    by_cases hlt : k < n
    · obtain ⟨b, off, p, rfl, hab, hgp, hcell⟩ := pts_get hA hlt
      have hpo := (HO.out).2 k p hgp
      have hms : (mostTo g k).length = k := tallyTo_len _ _ _ (by rw [HL.out]; omega)
      have hsucc := tallyTo_succ mostF g k p hgp
      obtain ⟨pv, pf, pm, po, pl, py, pn⟩ := p
      obtain ⟨c0, c1, c2, c3, c4, c5, c6⟩ := hcell wr _ (below_then hb1 hb) hab
      simp only at c0 c1 c2 c3 c4 c5 c6
      unfold ptOk at hpo
      simp only at hpo
      by_cases hop : po = 0
      · subst hop
        have HS := Lib.hid hsucc; have HM := Lib.hid hms; have HP := Lib.hid hgp; have HB := Lib.hid hbk; clear hsucc hms hgp hcell hbk hpo
        go_wp2
        have hs : mostTo g (k + 1) = mostTo g k ++ [0] := HS.out.trans (by simp [mostF, mostTo])
        refine ⟨⟨k + 1, by omega, by go_num, ?_, ?_, by go_grown⟩, by simp [intOf]; omega⟩
        · rw [hs]; exact upTo_snoc hup (by omega) (by omega)
        · rw [hs, rowOf_snoc0 _ _ (by rw [HM.out]; omega)]; exact HB.out.alloc _
      · have hnz : (po == 0) = false := by simp [hop]
        obtain ⟨y, rfl⟩ := Int.eq_ofNat_of_zero_le (show 0 ≤ py by omega)
        obtain ⟨o, rfl⟩ := Int.eq_ofNat_of_zero_le (show 0 ≤ pn by omega)
        have d0 : wr.cell? ⟨w1.heap.size, y, none⟩ = some (.int .i64 (((mostTo g k)[y]?).getD 0)) := (hbk.cell y).trans (rowOf_get _ _ _ (by omega))
        have d1 : wr.cell? ⟨w1.heap.size, o, none⟩ = some (.int .i64 (((mostTo g k)[o]?).getD 0)) := (hbk.cell o).trans (rowOf_get _ _ _ (by omega))
        have d2 : wr.cell? ⟨w1.heap.size, k, none⟩ = some (.int .i64 (((mostTo g k)[k]?).getD 0)) := (hbk.cell k).trans (rowOf_get _ _ _ (by omega))
        have f2 := hbk.frozen k
        have y1 : (y : Int) < (n : Int) := by omega
        have o1 : (o : Int) < (n : Int) := by omega
        have yk : y < k := by omega
        have ok : o < k := by omega
        have y2 : y < n := by omega
        have o2 : o < n := by omega
        have u0 := upTo_getD hup y
        have u1 := upTo_getD hup o
        have HS := Lib.hid hsucc; have HM := Lib.hid hms; have HP := Lib.hid hgp; have HB := Lib.hid hbk; clear hsucc hms hgp hcell hbk hpo
        go_wp2
        go_region
        go_wp2
        have hs : mostTo g (k + 1) = mostTo g k ++ [1 + max ((mostTo g k)[y]?.getD 0) ((mostTo g k)[o]?.getD 0)] := HS.out.trans (by simp [mostF, mostTo, hop])
        refine ⟨⟨k + 1, by omega, by go_num, ?_, ?_, by go_grown⟩, by simp [intOf]; omega⟩
        · rw [hs]; exact upTo_snoc hup (by omega) (by rw [HM.out]; omega)
        · have hset := HB.out.set_ k (.int .i64 (1 + max ((mostTo g k)[y]?.getD 0) ((mostTo g k)[o]?.getD 0)))
          have hr := rowOf_set (mostTo g k) n (1 + max ((mostTo g k)[y]?.getD 0) ((mostTo g k)[o]?.getD 0)) (by rw [HM.out]; omega)
          rw [HM.out] at hr
          rw [hs, ← hr]
          exact (hset.alloc _).drew
    · obtain rfl : k = n := by omega
      have d2 : wr.cell? ⟨w1.heap.size, k - 1, none⟩ = some (.int .i64 (((mostTo g k)[k - 1]?).getD 0)) := (hbk.cell _).trans (rowOf_get _ _ _ (by omega))
      have HB := Lib.hid hbk; clear hbk
      go_wp2
      go_ret
      refine ⟨ret_int ?_, below_then hb1 hb⟩
      unfold graphMost
      rw [HL.out]

set_option maxHeartbeats 1000000 in
theorem sGraphMost_ok (v : Value) (g : List Pt) (w : World) (hs : Sl w 7 v (g.map Pt.cells)) (hg : graphOk g) :
    Calls Try.prog 7 #[v] w fun e w' => e = .returned (.int .i64 (graphMost g)) ∧ Below w.heap.size w w' := by
  have hG := sGraphOk_any v g
  obtain ⟨A, n, c, rfl, hA⟩ := hs
  have hl : g.length = n := by have := hA.len; simpa using this
  have hc := hA.cap
  have hm := hA.max
  unfold maxLen at hm
  have h1 : 1 ≤ n ∧ n ≤ 120 := by rw [← hl]; exact hg.1
  obtain ⟨h1, h2⟩ := h1
  have hmk := fun W => run_make_row' (P := Try.prog) 28 3 (.int .i64 0) 8 Try.underlying28 info_int rfl .i64 .i64 n (by omega) (by omega) W
  have hgb : graphOkB g = true := graphOkB_iff.2 hg
  have HG := Lib.hid hG; have HL := Lib.hid hl; have HO := Lib.hid hg; clear hG hl hg
  go_enter Try.func7, Try.ntmps7
  go_wp2_with (go_at_call 10; refine (HG.out _ ⟨_, _, _, rfl, hA⟩).mono ?_; rintro e w1 ⟨rfl, hb1⟩)
  have hsz1 := hb1.size
  go_loopw [4] (fun i wr => ∃ k : Nat, k ≤ n ∧ i = .int .i64 k ∧ upTo (mostTo g k) ∧ Blk wr w1.heap.size 3 (rowOf (mostTo g k) n) ∧ Below w1.heap.size w1 wr) (fun i _ => n - (intOf i).toNat)
  case atStart =>
    refine ⟨0, Nat.zero_le _, rfl, ?_, ?_, ?_⟩
    · unfold mostTo; rw [tallyTo_zero]; intro j x h; simp at h
    · unfold mostTo; rw [tallyTo_zero, ← rowOf_zero]; exact Blk.new _ _ _
    · go_grown
  case round =>
    obtain ⟨k, hk, rfl, hup, hbk, hb⟩ := hrel
    have hsz := hb.size
    have hblt := hbk.lt
    by_cases hlt : k < n
    · obtain ⟨b, off, p, rfl, hab, hgp, hcell⟩ := pts_get hA hlt
      have hpo := (HO.out).2 k p hgp
      have hms : (mostTo g k).length = k := tallyTo_len _ _ _ (by rw [HL.out]; omega)
      have hsucc := tallyTo_succ mostF g k p hgp
      obtain ⟨pv, pf, pm, po, pl, py, pn⟩ := p
      obtain ⟨c0, c1, c2, c3, c4, c5, c6⟩ := hcell wr _ (below_then hb1 hb) hab
      simp only at c0 c1 c2 c3 c4 c5 c6
      unfold ptOk at hpo
      simp only at hpo
      by_cases hop : po = 0
      · subst hop
        have HS := Lib.hid hsucc; have HM := Lib.hid hms; have HP := Lib.hid hgp; have HB := Lib.hid hbk; clear hsucc hms hgp hcell hbk hpo
        go_wp2
        have hs : mostTo g (k + 1) = mostTo g k ++ [0] := HS.out.trans (by simp [mostF, mostTo])
        refine ⟨⟨k + 1, by omega, by go_num, ?_, ?_, by go_grown⟩, by simp [intOf]; omega⟩
        · rw [hs]; exact upTo_snoc hup (by omega) (by omega)
        · rw [hs, rowOf_snoc0 _ _ (by rw [HM.out]; omega)]; exact HB.out
      · have hnz : (po == 0) = false := by simp [hop]
        obtain ⟨y, rfl⟩ := Int.eq_ofNat_of_zero_le (show 0 ≤ py by omega)
        obtain ⟨o, rfl⟩ := Int.eq_ofNat_of_zero_le (show 0 ≤ pn by omega)
        have d0 : wr.cell? ⟨w1.heap.size, y, none⟩ = some (.int .i64 (((mostTo g k)[y]?).getD 0)) := (hbk.cell y).trans (rowOf_get _ _ _ (by omega))
        have d1 : wr.cell? ⟨w1.heap.size, o, none⟩ = some (.int .i64 (((mostTo g k)[o]?).getD 0)) := (hbk.cell o).trans (rowOf_get _ _ _ (by omega))
        have d2 : wr.cell? ⟨w1.heap.size, k, none⟩ = some (.int .i64 (((mostTo g k)[k]?).getD 0)) := (hbk.cell k).trans (rowOf_get _ _ _ (by omega))
        have f2 := hbk.frozen k
        have y1 : (y : Int) < (n : Int) := by omega
        have o1 : (o : Int) < (n : Int) := by omega
        have yk : y < k := by omega
        have ok : o < k := by omega
        have y2 : y < n := by omega
        have o2 : o < n := by omega
        have u0 := upTo_getD hup y
        have u1 := upTo_getD hup o
        have HS := Lib.hid hsucc; have HM := Lib.hid hms; have HP := Lib.hid hgp; have HB := Lib.hid hbk; clear hsucc hms hgp hcell hbk hpo
        have hs : mostTo g (k + 1) = mostTo g k ++ [1 + max ((mostTo g k)[y]?.getD 0) ((mostTo g k)[o]?.getD 0)] := HS.out.trans (by simp [mostF, mostTo, hop])
        have HS2 := Lib.hid hs; clear hs HS
        go_wp2
        go_region
        all_goals go_wp2
        all_goals refine ⟨⟨k + 1, by omega, by go_num, by rw [HS2.out]; exact upTo_snoc hup (by omega) (by rw [HM.out]; omega), ?_, by go_grown⟩, by simp [intOf]; omega⟩
        · have hr := rowOf_set2 (mostTo g k) n k HM.out ((mostTo g k)[y]?.getD 0 + 1) ((mostTo g k)[o]?.getD 0 + 1) (by omega)
          rw [HS2.out, show 1 + max ((mostTo g k)[y]?.getD 0) ((mostTo g k)[o]?.getD 0) = (mostTo g k)[o]?.getD 0 + 1 from by omega, ← hr]
          exact (((HB.out.set_ k _)).set_ k _).drew
        · have hr := rowOf_set1 (mostTo g k) n k HM.out ((mostTo g k)[y]?.getD 0 + 1) (by omega)
          rw [HS2.out, show 1 + max ((mostTo g k)[y]?.getD 0) ((mostTo g k)[o]?.getD 0) = (mostTo g k)[y]?.getD 0 + 1 from by omega, ← hr]
          exact (HB.out.set_ k _).drew
    · obtain rfl : k = n := by omega
      have d2 : wr.cell? ⟨w1.heap.size, k - 1, none⟩ = some (.int .i64 (((mostTo g k)[k - 1]?).getD 0)) := (hbk.cell _).trans (rowOf_get _ _ _ (by omega))
      have HB := Lib.hid hbk; clear hbk
      go_wp2
      go_ret
      refine ⟨ret_int ?_, below_then hb1 hb⟩
      unfold graphMost
      rw [HL.out]

theorem GraphMost_no (v : Value) (g : List Pt) (w : World) (hs : Sl w 7 v (g.map Pt.cells)) (hg : ¬ graphOk g) :
    Calls Try.prog 5 #[v] w fun e w' => e = .returned (.int .i64 0) ∧ Below w.heap.size w w' := by
  have hgb : graphOkB g = false := by rw [← Bool.not_eq_true, graphOkB_iff]; exact hg
  have HG := Lib.hid (GraphOk_any v g w hs)
  go_enter Try.func5, Try.ntmps5
  go_wp2_with (go_at_call 9; refine (HG.out).mono ?_; rintro e w1 ⟨rfl, hb1⟩)
  go_ret
  exact ⟨rfl, hb1⟩
theorem sGraphMost_no (v : Value) (g : List Pt) (w : World) (hs : Sl w 7 v (g.map Pt.cells)) (hg : ¬ graphOk g) :
    Calls Try.prog 7 #[v] w fun e w' => e = .returned (.int .i64 0) ∧ Below w.heap.size w w' := by
  have hgb : graphOkB g = false := by rw [← Bool.not_eq_true, graphOkB_iff]; exact hg
  have HG := Lib.hid (sGraphOk_any v g w hs)
  go_enter Try.func7, Try.ntmps7
  go_wp2_with (go_at_call 10; refine (HG.out).mono ?_; rintro e w1 ⟨rfl, hb1⟩)
  go_ret
  exact ⟨rfl, hb1⟩

/-- What both GraphMost return. -/
noncomputable def mostOf (g : List Pt) : Int := @ite _ (graphOk g) (Classical.propDecidable _) (graphMost g) 0
theorem GraphMost_any (v : Value) (g : List Pt) (w : World) (hs : Sl w 7 v (g.map Pt.cells)) :
    Calls Try.prog 5 #[v] w fun e w' => e = .returned (.int .i64 (mostOf g)) ∧ Below w.heap.size w w' := by
  unfold mostOf
  by_cases h : graphOk g
  · rw [if_pos h]; exact GraphMost_ok v g w hs h
  · rw [if_neg h]; exact GraphMost_no v g w hs h
theorem sGraphMost_any (v : Value) (g : List Pt) (w : World) (hs : Sl w 7 v (g.map Pt.cells)) :
    Calls Try.prog 7 #[v] w fun e w' => e = .returned (.int .i64 (mostOf g)) ∧ Below w.heap.size w w' := by
  unfold mostOf
  by_cases h : graphOk g
  · rw [if_pos h]; exact sGraphMost_ok v g w hs h
  · rw [if_neg h]; exact sGraphMost_no v g w hs h
end Go.Proofs.Ytjkgnepbmeekhaa
