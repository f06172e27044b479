/- impl.GraphVerdicts and spec.GraphVerdicts: both are the verdicts that stand where the beginning leads to, ascending, each once. -/
import Derived.Test.YtccklepidlddcaaVerdR
import Derived.Test.YtccklepidlddcaaKit
import Derived.Test.YtccklepidlddcaaSortI
namespace Go.Proofs.Ytccklepidlddcaa
open Go.RowKit
set_option linter.unusedSimpArgs false
set_option linter.unusedVariables false

/-- What is marked. -/
noncomputable def reachOf (g : List Pt) : List Bool := @dite _ (∃ rs, Reach g (g.length - 1) (-1) rs) (Classical.propDecidable _) (fun h => Classical.choose h) (fun _ => [])
theorem reachOf_eq {g : List Pt} {rs : List Bool} (hg : graphOk g) (h : Reach g (g.length - 1) (-1) rs) : rs = reachOf g := by
  have he : ∃ rs, Reach g (g.length - 1) (-1) rs := ⟨rs, h⟩
  unfold reachOf
  rw [dif_pos he]
  have := hg.1
  exact reach_one hg (by omega) h (Classical.choose_spec he)
/-- What both return. -/
noncomputable def verdictsOf (g : List Pt) : List Int := @ite _ (graphOk g) (Classical.propDecidable _) (outTo g (reachOf g) 4) []
def VerdPost (g : List Pt) (w : World) (e : Ending) (w' : World) : Prop := ∃ v, e = .returned v ∧ w'.ownsRow w.heap.size 3 1 v (verdictsOf g).length (ints (verdictsOf g)).flatten ∧ Below w.heap.size w w'

theorem GraphVerdicts_no (v : Value) (g : List Pt) (w : World) (hs : Sl w 7 v (g.map Pt.cells)) (hg : ¬ graphOk g) :
    Calls Try.prog 5 #[v] w (VerdPost g w) := by
  have hgb : graphOkB g = false := by rw [← Bool.not_eq_true, graphOkB_iff]; exact hg
  have he : verdictsOf g = [] := by unfold verdictsOf; rw [if_neg hg]
  have HG := Lib.hid (GraphOk_any v g w hs)
  go_enter Try.func5, Try.ntmps5
  go_wp2_with (go_at_call 8; refine (HG.out).mono ?_; rintro e w1 ⟨rfl, hb1⟩)
  go_ret
  exact ⟨_, rfl, by rw [he]; exact World.ownsRow_nil _ _ _ _, hb1⟩

set_option maxHeartbeats 2000000 in
theorem GraphVerdicts_ok (v : Value) (g : List Pt) (w : World) (hs : Sl w 7 v (g.map Pt.cells)) (hg : graphOk g) :
    Calls Try.prog 5 #[v] w (VerdPost g w) := by
  have hG := GraphOk_any v g
  obtain ⟨A, n, c, rfl, hA⟩ := hs
  have hl : g.length = n := by have := hA.len; simpa using this
  have hc := hA.cap
  have hm := hA.max
  unfold maxLen at hm
  have h1 : 1 ≤ n ∧ n ≤ 120 := by rw [← hl]; exact hg.1
  obtain ⟨h1, h2⟩ := h1
  have hgb : graphOkB g = true := graphOkB_iff.2 hg
  have hn1 : (n : Int) - 1 = ((n - 1 : Nat) : Int) := by omega
  have HG := Lib.hid hG; have HL := Lib.hid hl; have HO := Lib.hid hg; have HA := Lib.hid hA; clear hG hl hg
  go_enter Try.func5, Try.ntmps5
  go_wp2_with fail
  refine (HG.out _ ⟨_, _, _, rfl, hA⟩).mono ?_; rintro e w1 ⟨rfl, hb1⟩
  rw [hgb]
  have hA1 := hA.below hb1
  go_wp2_with fail
  refine (pointsFrom_ok A n c g (n - 1) _ hA1 HO.out (by omega)).mono ?_; rintro e w2 ⟨rs, hR, rfl, hbk, hb2⟩
  have hrs : rs = reachOf g := reachOf_eq HO.out (by rw [HL.out]; exact hR)
  have hrl : rs.length = n := hR.len.trans HL.out
  have hA2 := hA1.below hb2
  have hb02 := below_then hb1 hb2
  have HRS := Lib.hid hrs; have HRL := Lib.hid hrl; clear hR hrs hrl hA1 hA
  go_wp2
  go_loopw [3, 15] (fun v i wr => ∃ k : Nat, k ≤ n ∧ i = .int .i64 k ∧ wr.ownsRow w2.heap.size 3 1 v (vsTo g rs k).length (ints (vsTo g rs k)).flatten ∧ Below w2.heap.size w2 wr) (fun _ i _ => n - (intOf i).toNat)
  case atStart => exact ⟨0, Nat.zero_le _, rfl, World.ownsRow_nil _ _ _ _, by go_grown⟩
  case round =>
    obtain ⟨k, hk, rfl, hown, hbw⟩ := hrel
    have hsz := hbw.size
    have hvl := vsTo_len g rs k
    by_cases hlt : k < n
    · obtain ⟨b, off, p, rfl, hab, hgp, hcell⟩ := pts_get hA2 hlt
      obtain ⟨rb, hrb⟩ := bRow_some HRL.out hlt
      have d1 := (hbw.cell (p := ⟨w1.heap.size, k, none⟩) hbk.lt).trans (bRow_cell hbk hrb)
      obtain ⟨pv, pf, pm, po, pl, py, pn⟩ := p
      obtain ⟨c0, c1, c2, c3, c4, c5, c6⟩ := hcell wr _ hbw hab
      simp only at c0 c1 c2 c3 c4 c5 c6
      have HP := Lib.hid hgp; have HRB := Lib.hid hrb; clear hgp hcell hrb
      obtain ⟨A5, n5, c5', rfl, -⟩ := SlA.of_own hown (ints_len _) (ints_rows _)
      have HOWN := Lib.hid hown; clear hown
      cases rb with
      | false =>
        go_wp2
        exact ⟨⟨k + 1, by omega, by go_num, by rw [vsTo_off HRB.out]; exact own_below HOWN.out (by go_grown), by go_grown⟩, by simp [intOf]; try omega⟩
      | true =>
        by_cases hop : po = 0
        · have hop' : (po == 0) = true := by simp [hop]
          have HS := Lib.hid (vsTo_yes HP.out HRB.out hop); clear hop
          go_wp2_with (at_builtin; go_must (refine wpList_app1 (w0 := wr) rfl (.tmp 29) (.tmp 35) _ rfl w2.heap.size 3 Try.underlying25 info_int rfl (by omega) (by omega) _ (vsTo g rs k).length (ints (vsTo g rs k)) rfl HOWN.out rfl (by simp [Value.oneCell']) rfl (by omega) hsz ?_); intro v5 w5 hown5 hb5 _; obtain ⟨g5, cap5, rfl, hg5, hg5'⟩ := hown5.form (by omega))
          refine ⟨⟨k + 1, by omega, by go_num, ?_, hbw.trans hb5⟩, by simp [intOf]; try omega⟩
          rw [HS.out]
          simpa [ints] using hown5
        · have hop' : (po == 0) = false := by simp [hop]
          have HS := Lib.hid (vsTo_op (rs := rs) HP.out hop); clear hop
          go_wp2
          exact ⟨⟨k + 1, by omega, by go_num, by rw [HS.out]; exact own_below HOWN.out (by go_grown), by go_grown⟩, by simp [intOf]; try omega⟩
    · obtain rfl : k = n := by omega
      obtain ⟨A5, n5, c5', rfl, -⟩ := SlA.of_own hown (ints_len _) (ints_rows _)
      have HOWN := Lib.hid hown; clear hown
      go_wp2_with fail
      refine (Sort_own w2.heap.size _ _ _ _ (own_below HOWN.out (by go_grown)) rfl (by omega)).mono ?_; rintro e w3 ⟨rfl, own3, hb3⟩
      have hml : ((vsTo g rs k).mergeSort fun x y => decide (x ≤ y)).length = (vsTo g rs k).length := by simp
      go_wp2_with fail
      refine (Compact_own w2.heap.size _ _ _ _ own3 hml (by omega)).mono ?_; rintro e w4 ⟨v4, rfl, own4, hb4⟩
      have hv : Lib.compact ((vsTo g rs k).mergeSort fun x y => decide (x ≤ y)) = verdictsOf g := by
        unfold verdictsOf
        rw [if_pos HO.out, ← HRS.out, ← HL.out, verdicts_one HO.out]
      rw [hv] at own4
      obtain ⟨A6, n6, c6, rfl, -⟩ := SlA.of_own own4 (ints_len _) (ints_rows _)
      have HO4 := Lib.hid own4; clear own4 own3
      go_wp2
      go_ret
      have hs02 := hb02.size
      exact ⟨_, rfl, own_base HO4.out hs02, hb02.trans ((hbw.trans (hb3.trans hb4)).mono hs02)⟩

theorem sGraphVerdicts_no (v : Value) (g : List Pt) (w : World) (hs : Sl w 7 v (g.map Pt.cells)) (hg : ¬ graphOk g) :
    Calls Try.prog 7 #[v] w (VerdPost g w) := by
  have hgb : graphOkB g = false := by rw [← Bool.not_eq_true, graphOkB_iff]; exact hg
  have he : verdictsOf g = [] := by unfold verdictsOf; rw [if_neg hg]
  have hB : Below w.heap.size w (w.alloc (.cells #[] 3)) := by go_grown
  have HG := Lib.hid (sGraphOk_any v g _ (hs.below hB))
  have hE : (w.alloc (.cells #[] 3)).ownsRow w.heap.size 3 1 (.slice (some ⟨w.heap.size, 0, none⟩) 0 0) 0 [] := World.ownsRow_made w #[] 0 (Nat.le_refl _) (by unfold maxLen; omega) rfl
  have HE := Lib.hid hE; clear hE
  go_enter Try.func7, Try.ntmps7
  go_wp2_with (go_at_call 9; refine (HG.out).mono ?_; rintro e w1 ⟨rfl, hb1⟩)
  go_ret
  exact ⟨_, rfl, by rw [he]; exact own_below HE.out hb1, below_then hB hb1⟩

set_option maxHeartbeats 2000000 in
theorem sGraphVerdicts_ok (v : Value) (g : List Pt) (w : World) (hs : Sl w 7 v (g.map Pt.cells)) (hg : graphOk g) :
    Calls Try.prog 7 #[v] w (VerdPost g w) := by
  have hG := sGraphOk_any v g
  obtain ⟨A, n, c, rfl, hA⟩ := hs
  have hl : g.length = n := by have := hA.len; simpa using this
  have hc := hA.cap
  have hm := hA.max
  unfold maxLen at hm
  have h1 : 1 ≤ n ∧ n ≤ 120 := by rw [← hl]; exact hg.1
  obtain ⟨h1, h2⟩ := h1
  have hgb : graphOkB g = true := graphOkB_iff.2 hg
  have hn1 : (n : Int) - 1 = ((n - 1 : Nat) : Int) := by omega
  have hB : Below w.heap.size w (w.alloc (.cells #[] 3)) := by go_grown
  have hE : (w.alloc (.cells #[] 3)).ownsRow w.heap.size 3 1 (.slice (some ⟨w.heap.size, 0, none⟩) 0 0) 0 [] := World.ownsRow_made w #[] 0 (Nat.le_refl _) (by unfold maxLen; omega) rfl
  have HE := Lib.hid hE; clear hE
  have HG := Lib.hid hG; have HL := Lib.hid hl; have HO := Lib.hid hg; have HA := Lib.hid hA; clear hG hl hg
  go_enter Try.func7, Try.ntmps7
  go_wp2_with fail
  refine (HG.out _ ⟨_, _, _, rfl, hA.below hB⟩).mono ?_; rintro e w1 ⟨rfl, hb1⟩
  rw [hgb]
  have hb01 := below_then hB hb1
  have hA1 := hA.below hb01
  have own1 := own_below HE.out hb1
  go_wp2_with fail
  refine (l4Used_ok A n c g (n - 1) _ hA1 HO.out (by omega)).mono ?_; rintro e w2 ⟨rs, hR, rfl, hbk, hb2⟩
  have hrs : rs = reachOf g := reachOf_eq HO.out (by rw [HL.out]; exact hR)
  have hrl : rs.length = n := hR.len.trans HL.out
  have hA2 := hA1.below hb2
  have hb02 := below_then hb01 hb2
  have own2 := own_below own1 hb2
  have HRS := Lib.hid hrs; have HRL := Lib.hid hrl; clear hR hrs hrl hA1 hA own1
  have hs01 := hb01.size
  have hw1 : w1.heap.size < w2.heap.size := hbk.lt
  go_wp2
  go_loopw [3, 5] (fun v i wr => ∃ k : Nat, k ≤ 4 ∧ i = .int .i64 ((k : Int) + 1) ∧ wr.ownsRow w.heap.size 3 1 v (outTo g rs k).length (ints (outTo g rs k)).flatten ∧ Blk wr w1.heap.size 4 (bRow rs) ∧ Below w.heap.size w wr) (fun _ i _ => 5 - (intOf i).toNat)
  case atStart => exact ⟨0, by omega, rfl, own2, hbk, hb02⟩
  case round =>
    obtain ⟨k, hk, rfl, hown, hbk3, hbw⟩ := hrel
    have hsz := hbw.size
    have hol := outTo_len g rs k
    obtain ⟨A5, n5, c5', rfl, -⟩ := SlA.of_own hown (ints_len _) (ints_rows _)
    have HOWN := Lib.hid hown; clear hown
    by_cases hlt : k < 4
    · have hki : (k : Int) + 1 ≤ 4 := by omega
      go_wp2
      go_loopw [3, 6] (fun v i wr' => ∃ j : Nat, j ≤ n ∧ i = .int .i64 j ∧ v = .slice A5 n5 c5' ∧ wr' = wr ∧ (∀ (i : Nat) (p : Pt), i < j → g[i]? = some p → rs[i]? = some true → p.op = 0 → p.verdict ≠ (k : Int) + 1)) (fun _ i _ => n - (intOf i).toNat)
      case atStart => exact ⟨0, Nat.zero_le _, rfl, rfl, rfl, fun _ _ h => absurd h (by omega)⟩
      case round =>
        obtain ⟨j, hj, rfl, rfl, rfl, hnone⟩ := hrel
        have HNO := Lib.hid hnone; clear hnone
        by_cases hjn : j < n
        · obtain ⟨b, off, p, rfl, hab, hgp, hcell⟩ := pts_get (HA.out) hjn
          obtain ⟨rb, hrb⟩ := bRow_some HRL.out hjn
          have d1 := bRow_cell hbk3 hrb
          obtain ⟨pv, pf, pm, po, pl, py, pn⟩ := p
          obtain ⟨c0, c1, c2, c3, c4, c5, c6⟩ := hcell wr _ hbw hab
          simp only at c0 c1 c2 c3 c4 c5 c6
          have HP := Lib.hid hgp; have HRB := Lib.hid hrb; clear hgp hcell hrb
          have hbne : ¬ b = w1.heap.size := by omega
          have hjni : (j : Int) < n := by omega
          have hstep : (rb = true → po = 0 → pv ≠ (k : Int) + 1) → ∀ (i : Nat) (p : Pt), i < j + 1 → g[i]? = some p → rs[i]? = some true → p.op = 0 → p.verdict ≠ (k : Int) + 1 := by
            intro hh i p hi hp hr ho
            by_cases e : i = j
            · subst e
              rw [HP.out] at hp; cases hp
              rw [HRB.out] at hr; cases hr
              exact hh rfl ho
            · exact HNO.out i p (by omega) hp hr ho
          have HST := Lib.hid hstep; clear hstep
          cases rb with
          | false =>
            go_wp2
            exact ⟨⟨j + 1, by omega, by go_num, by first | rfl | trivial, by first | rfl | trivial, HST.out (by intro h; cases h)⟩, by simp [intOf]; try omega⟩
          | true =>
            by_cases hop : po = 0
            · have hop' : (po == 0) = true := by simp [hop]
              by_cases hpv : pv = (k : Int) + 1
              · have hpv' : (pv == (k : Int) + 1) = true := by simp [hpv]
                have HS := Lib.hid (outTo_yes (k := k) (show stands g rs ((k : Int) + 1) from ⟨j, _, HP.out, HRB.out, hop, hpv⟩)); clear hop hpv
                go_wp2_with (at_builtin; go_must (refine wpList_app1g (w0 := wr) rfl (.tmp 48) (.tmp 50) _ rfl w.heap.size 3 Try.underlying25 info_int rfl (by omega) (by omega) _ (outTo g rs k).length (ints (outTo g rs k)) rfl HOWN.out rfl (by simp [Value.oneCell']) rfl (by omega) hsz ?_); intro v5 w5 hown5 hb5 _; obtain ⟨g5, cap5, rfl, hg5, hg5'⟩ := hown5.form (by omega))
                refine ⟨⟨k + 1, by omega, by go_num, ?_, ?_, ?_⟩, by simp [intOf]; try omega⟩
                · rw [HS.out]
                  simpa [ints] using hown5
                · exact hbk3.grown hb5 (fun e => own_ne_blk_some HOWN.out hbk3 (by decide) e.symm)
                · exact hbw.grown hb5 hsz (fun k' hk' => (HOWN.out.lt k' hk').1)
              · have hpv' : (pv == (k : Int) + 1) = false := by simp [hpv]
                have HPV := Lib.hid hpv; clear hpv hop
                go_wp2
                exact ⟨⟨j + 1, by omega, by go_num, by first | rfl | trivial, by first | rfl | trivial, HST.out (fun _ _ => HPV.out)⟩, by simp [intOf]; try omega⟩
            · have hop' : (po == 0) = false := by simp [hop]
              have HOP := Lib.hid hop; clear hop
              go_wp2
              exact ⟨⟨j + 1, by omega, by go_num, by first | rfl | trivial, by first | rfl | trivial, HST.out (fun _ h => absurd h HOP.out)⟩, by simp [intOf]; try omega⟩
        · obtain rfl : j = n := by omega
          go_wp2
          refine ⟨⟨k + 1, by omega, by go_num, ?_, hbk3, hbw⟩, by simp [intOf]; try omega⟩
          rw [outTo_no (k := k) (fun h => by
            obtain ⟨i, p, h1, h2, h3, h4⟩ := h
            exact HNO.out i p (by have := (List.getElem?_eq_some_iff.1 h1).1; rw [HL.out] at this; exact this) h1 h2 h3 h4)]
          exact HOWN.out
    · obtain rfl : k = 4 := by omega
      have hv : outTo g rs 4 = verdictsOf g := by
        unfold verdictsOf
        rw [if_pos HO.out, ← HRS.out]
      have ho := HOWN.out
      rw [hv] at ho
      have HO4 := Lib.hid ho; clear ho
      go_wp2
      go_ret
      exact ⟨_, rfl, HO4.out, hbw⟩

theorem GraphVerdicts_any (v : Value) (g : List Pt) (w : World) (hs : Sl w 7 v (g.map Pt.cells)) : Calls Try.prog 5 #[v] w (VerdPost g w) := by
  by_cases h : graphOk g
  · exact GraphVerdicts_ok v g w hs h
  · exact GraphVerdicts_no v g w hs h
theorem sGraphVerdicts_any (v : Value) (g : List Pt) (w : World) (hs : Sl w 7 v (g.map Pt.cells)) : Calls Try.prog 7 #[v] w (VerdPost g w) := by
  by_cases h : graphOk g
  · exact sGraphVerdicts_ok v g w hs h
  · exact sGraphVerdicts_no v g w hs h
end Go.Proofs.Ytccklepidlddcaa
