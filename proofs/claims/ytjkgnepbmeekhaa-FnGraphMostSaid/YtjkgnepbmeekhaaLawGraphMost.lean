/- The law of a graph's longest way, walked: FnGraphMost returns true. -/
import Derived.Test.YtjkgnepbmeekhaaDrawBent
import Derived.Test.YtjkgnepbmeekhaaGraphLawP
import Derived.Test.YtjkgnepbmeekhaaRdOpen
namespace Go.Proofs.Ytjkgnepbmeekhaa
open Go.RowKit
set_option linter.unusedSimpArgs false
set_option linter.unusedVariables false

/-- A row of points lies apart from the reader: the reader has two cells alone. -/
theorem Sl.apart {w w' : World} {g p : Nat} {v : Value} {gs : List Pt} (h : Sl w 7 v (gs.map Pt.cells)) (hr : Rd w g p) (hg : w.grownBy w' (some g)) : Sl w' 7 v (gs.map Pt.cells) := by
  obtain ⟨A, n, c, rfl, hA⟩ := h
  rcases Nat.eq_zero_or_pos n with h0 | h0
  · subst h0
    exact ⟨A, 0, c, rfl, hA.len, hA.cap, hA.max, fun h => absurd h (by omega)⟩
  · refine ⟨A, n, c, rfl, hA.grown hg fun b off e => ?_⟩
    obtain ⟨b', off', e', hb, he⟩ := hA.at_ h0
    rw [e] at e'
    cases e'
    intro e2
    subst e2
    obtain ⟨_, _, _, _, hrd⟩ := hr
    have hl := hA.len
    have hr0 : (gs.map Pt.cells)[0]? = some ((gs.map Pt.cells)[0]'(by omega)) := List.getElem?_eq_getElem _
    have hlen : ((gs.map Pt.cells)[0]'(by omega)).length = 7 := Pt.rows gs _ (List.getElem_mem _)
    have h6 := he 0 _ hr0 6 _ (List.getElem?_eq_getElem (by rw [hlen]; omega))
    rw [hrd.blk.cell] at h6
    simp at h6

set_option maxHeartbeats 1000000 in
theorem DrawGraphTrim_any (v : Value) (ys : List Int) (w : World) (hs : Sl w 1 v (u8s ys)) (hb : ∀ y ∈ ys, 0 ≤ y ∧ y ≤ 255) :
    Calls Try.prog 11 #[v] w fun e w' => ∃ (v' : Value) (gs : List Pt), e = .returned v' ∧ Sl w' 7 v' (gs.map Pt.cells) ∧ gs.length ≤ 1200 ∧ Below w.heap.size w w' := by
  have HS := Lib.hid hs; have HB := Lib.hid hb
  obtain ⟨A, n, c, rfl, -⟩ := hs
  clear hb
  go_enter Try.func11, Try.ntmps11
  go_wp2_with fail
  refine (l1Open_any _ ys _ HS.out HB.out).mono ?_; rintro e w1 ⟨rfl, r1, b1⟩
  go_wp2_with fail
  refine (l11Graph_any w.heap.size 0 _ r1 (by omega)).mono ?_; rintro e w2 ⟨v2, gs, q, rfl, hs2, hl2, g2, r2, hq⟩
  have D2 : Dq w1 w2 w.heap.size q := (Dq.start r1).step g2 r2
  have HS2 := Lib.hid hs2; clear hs2 r1 g2 r2
  go_wp2_with fail
  refine (pick_any w.heap.size q 10 _ D2.rd (by omega)).mono ?_; rintro e w3 ⟨k3, rfl, a3, b3, g3, r3⟩
  have D3 := D2.step g3 r3
  have HS3 := Lib.hid (HS2.out.apart D2.rd g3)
  clear g3 r3 b3 D2
  by_cases hk : k3 = 0
  · subst hk
    go_wp2_with fail
    refine (l11BentGraph_any w.heap.size (q + 1) v2 gs _ D3.rd (by omega) HS3.out hl2).mono ?_; rintro e w4 ⟨v4, gs4, q4, rfl, hs4, hl4, g4, r4⟩
    have D4 := D3.step g4 r4
    have HS4 := Lib.hid hs4; clear hs4 g4 r4
    go_wp2
    go_ret
    exact ⟨v4, gs4, rfl, HS4.out, hl4, b1.trans (below_of_grown D4.grown (Nat.le_refl _) D4.lt)⟩
  · have hd : (k3 == 0) = false := by simp; omega
    go_wp2
    go_ret
    exact ⟨v2, gs, rfl, HS3.out, by omega, b1.trans (below_of_grown D3.grown (Nat.le_refl _) D3.lt)⟩
theorem DrawGraphMost_any (v : Value) (ys : List Int) (w : World) (hs : Sl w 1 v (u8s ys)) (hb : ∀ y ∈ ys, 0 ≤ y ∧ y ≤ 255) :
    Calls Try.prog 4 #[v] w fun e w' => ∃ (v' : Value) (gs : List Pt), e = .returned v' ∧ Sl w' 7 v' (gs.map Pt.cells) ∧ gs.length ≤ 1200 ∧ Below w.heap.size w w' := by
  have HS := Lib.hid hs; have HB := Lib.hid hb
  obtain ⟨A, n, c, rfl, -⟩ := hs
  clear hb
  go_enter Try.func4, Try.ntmps4
  go_wp2_with fail
  refine (DrawGraphTrim_any _ ys _ HS.out HB.out).mono ?_; rintro e w1 ⟨v1, gs, rfl, hs1, hl1, b1⟩
  have HS1 := Lib.hid hs1; clear hs1
  go_wp2
  go_ret
  exact ⟨v1, gs, rfl, HS1.out, hl1, b1⟩

theorem mostOf_no {g : List Pt} (h : ¬ graphOk g) : mostOf g = 0 := by unfold mostOf; rw [if_neg h]
theorem waysOf_no {g : List Pt} (h : ¬ graphOk g) : waysOf g = 0 := by unfold waysOf; rw [if_neg h]
theorem fine_of {g : List Pt} (h : graphOk g) : Fine (g.length - 1) (mostOf g) (waysOf g) := by unfold mostOf waysOf; rw [if_pos h, if_pos h]; exact fine_all h

namespace lawGraphMost
set_option maxHeartbeats 4000000 in
theorem walk (v : Value) (ys : List Int) (w : World) (hs : Sl w 1 v (u8s ys)) (hb : ∀ y ∈ ys, 0 ≤ y ∧ y ≤ 255) :
    Calls Try.prog 3 #[v] w fun e w' => e = .returned (.bool true) ∧ Below w.heap.size w w' := by
  have HS := Lib.hid hs; have HB := Lib.hid hb
  obtain ⟨A, n, c, rfl, hA⟩ := hs
  have hm := hA.max
  have hc := hA.cap
  unfold maxLen at hm
  clear hb hA
  by_cases hn : n ≤ 1048576
  · go_enter Try.func3, Try.ntmps3
    go_wp2_with fail
    refine (DrawGraphMost_any _ ys _ HS.out HB.out).mono ?_; rintro e w1 ⟨v1, g, rfl, hs1, hl1, b1⟩
    have hs1' := hs1
    obtain ⟨A1, n1, c1, rfl, hA1⟩ := hs1'
    have hn1 : g.length = n1 := by have := hA1.len; simpa using this
    have HS1 := Lib.hid hs1; clear hs1 hA1
    go_wp2_with fail
    refine (GraphMost_any _ g _ HS1.out).mono ?_; rintro e w2 ⟨rfl, b2⟩
    go_wp2_with fail
    refine (GraphWays_any _ g _ (HS1.out.below b2)).mono ?_; rintro e w3 ⟨rfl, b3⟩
    have b23 := below_then b2 b3
    go_wp2_with fail
    refine (sGraphMost_any _ g _ (HS1.out.below b23)).mono ?_; rintro e w4 ⟨rfl, b4⟩
    have b24 := below_then b23 b4
    have hd1 : (mostOf g != mostOf g) = false := by simp
    have hd2 : (waysOf g != waysOf g) = false := by simp
    have hd3 : (graphOkB g != graphOkB g) = false := by simp
    go_wp2_with fail
    refine (sGraphWays_any _ g _ (HS1.out.below b24)).mono ?_; rintro e w5 ⟨rfl, b5⟩
    have b25 := below_then b24 b5
    go_wp2_with fail
    refine (GraphOk_any _ g _ (HS1.out.below b25)).mono ?_; rintro e w6 ⟨rfl, b6⟩
    have b26 := below_then b25 b6
    go_wp2_with fail
    refine (sGraphOk_any _ g _ (HS1.out.below b26)).mono ?_; rintro e w7 ⟨rfl, b7⟩
    have b27 := below_then b26 b7
    go_wp2_with fail
    refine (sGraphOk_any _ g _ (HS1.out.below b27)).mono ?_; rintro e w8 ⟨rfl, b8⟩
    have b18 := below_then b1 (below_then b27 b8)
    clear b1 b2 b3 b23 b4 b24 b5 b25 b6 b26 b7 b27 b8 HS1 HS HB
    cases hok : graphOkB g with
    | false =>
      have hno : ¬ graphOk g := fun h => by rw [graphOkB_iff.2 h] at hok; cases hok
      rw [mostOf_no hno, waysOf_no hno]
      go_wp2
      go_ret
      exact ⟨rfl, b18⟩
    | true =>
      have hF := fine_of (graphOkB_iff.1 hok)
      have hg1 := (graphOkB_iff.1 hok).1
      obtain ⟨M, hM⟩ : ∃ M : Nat, mostOf g = M := ⟨(mostOf g).toNat, (Int.toNat_of_nonneg hF.m0).symm⟩
      obtain ⟨W, hW⟩ : ∃ W : Nat, waysOf g = W := ⟨(waysOf g).toNat, (Int.toNat_of_nonneg (Int.le_trans (by omega) hF.w1)).symm⟩
      rw [hM, hW] at hF
      rw [hM, hW]
      obtain ⟨m0, mj, w1', wm, pw, more, one⟩ := hF
      clear hM hW hd1 hd2 hd3
      have hpw : W ≤ 2 ^ M := by
        have := pw
        rw [Int.toNat_natCast] at this
        exact Int.ofNat_le.1 this
      clear pw
      have HPW := Lib.hid hpw; have HONE := Lib.hid one; clear hpw one
      go_wp2
      go_loopw [6, 7] (fun al i wr => ∃ k : Nat, k ≤ M ∧ k ≤ 20 ∧ i = .int .i64 k ∧ al = .int .i64 ((2 ^ k : Nat) : Int) ∧ Below w.heap.size w wr) (fun _ i _ => M - (intOf i).toNat)
      case atStart => exact ⟨0, by omega, by omega, rfl, rfl, b18⟩
      case round =>
        obtain ⟨k, hk, hk20, rfl, ho, hbw⟩ := hrel
        obtain ⟨P, hP⟩ : ∃ P, P = 2 ^ k := ⟨_, rfl⟩
        rw [← hP] at ho
        subst ho
        have hPk : k = 20 → P = 1048576 := fun e => by rw [hP, e]
        have hPM : k = M → W ≤ P := fun e => by rw [hP, e]; exact HPW.out
        have hPs : 2 ^ (k + 1) = P * 2 := by rw [Nat.pow_succ, hP]
        have HPS := Lib.hid hPs; clear hP hPs b18
        by_cases h12 : k < M ∧ P < 1000000
        · obtain ⟨h1, h2⟩ := h12
          have h1i : (k : Int) < M := by omega
          have h2i : (P : Int) < 1000000 := by omega
          go_wp2
          refine ⟨⟨k + 1, by omega, by omega, by go_num, ?_, hbw⟩, by simp [intOf]; omega⟩
          rw [HPS.out]
          go_num
        · have hWP : (W : Int) ≤ P := by
            by_cases e : k = M
            · have := hPM e; omega
            · omega
          have hMn : (M : Int) < n1 := by omega
          have hlen : (1 : Int) ≤ W := by omega
          have hmore : (W : Int) ≥ M + 1 := by omega
          have hend : ¬ ((k : Int) < M ∧ (P : Int) < 1000000) := fun h => h12 ⟨by omega, by omega⟩
          by_cases hM0 : M = 0
          · have hW1 : W = 1 := by have := HONE.out; omega
            subst hM0 hW1
            obtain rfl : k = 0 := by omega
            go_wp2
            go_ret
            exact ⟨rfl, hbw⟩
          · have hW1 : W ≠ 1 := by have := HONE.out; omega
            have hd1 : ((M : Int) == 0) = false := by simp; omega
            have hd2 : ((W : Int) == 1) = false := by simp; omega
            by_cases h1 : k < M
            · have h1i : (k : Int) < M := by omega
              have h2i : ¬ (P : Int) < 1000000 := by omega
              go_wp2
              go_ret
              exact ⟨rfl, hbw⟩
            · obtain rfl : k = M := by omega
              go_wp2
              go_ret
              exact ⟨rfl, hbw⟩
  · go_enter Try.func3, Try.ntmps3
    go_wp2
    go_ret
    exact ⟨rfl, Below.refl _ _⟩
end lawGraphMost
end Go.Proofs.Ytjkgnepbmeekhaa
