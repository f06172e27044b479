/- The law of a program's ways, walked: FnCodeFar returns true. -/
import Derived.Test.YtoibocaaeimplaaDoorDrawCodeB
import Derived.Test.YtoibocaaeimplaaDoorRdOpen
import Derived.Test.YtoibocaaeimplaaDoorCodeWI
import Derived.Test.YtoibocaaeimplaaDoorCodeS2
import Derived.Test.YtoibocaaeimplaaDoorOpen
namespace Go.Proofs.YtoibocaaeimplaaDoor
open Go.RowKit Go.WideShapes Go.ChangeShapes Go.ChangeAt
set_option linter.unusedSimpArgs false
set_option linter.unusedVariables false

/-- Letters that came in. -/
theorem u8s_arg {H : Type} {enc : TypeId × Value → H} {w : World} {base : Nat} {spare : Nat → Bool} {held : Bool} {fuel : Nat} {cs : List Value} {x : DataW H × List MemPlace}
    (h : DataW.trod enc Tryd.prog w base spare held fuel 34 cs = some x) : ∃ (v : Value) (ys : List Int), cs = [v] ∧ Sl w 1 v (u8s ys) ∧ ∀ y ∈ ys, 0 ≤ y ∧ y ≤ 255 := by
  obtain ⟨v, css, rfl, hs, hr⟩ := slice_reads (size := 1) (R := fun r => ∃ p : { n : Int // 0 ≤ n ∧ n ≤ 255 }, r = [Value.int .u8 p.1]) Tryd.underlying34 (by kernel_rfl) (by omega) (fun n r y hy => by
    obtain ⟨m, hc, _, hw⟩ := DataW.trod_int Tryd.underlying5 hy
    exact ⟨⟨m, by simpa [Lit.wf, IntKind.min, IntKind.max, IntKind.signed, IntKind.bits] using hw⟩, hc⟩) h
  obtain ⟨g, rfl⟩ := all_map css (fun r hr' => (hr r hr').1)
  refine ⟨v, g.map (·.1), rfl, by simpa [u8s, List.map_map, Function.comp_def] using hs, fun x hx => ?_⟩
  obtain ⟨p, _, rfl⟩ := List.mem_map.1 hx
  exact p.2
/-- A row of places lies apart from the reader: the reader has two cells alone. -/
theorem Sl.apartC {w w' : World} {g p : Nat} {v : Value} {gs : List In4} (h : Sl w 4 v (insR gs)) (hr : Rd w g p) (hg : w.grownBy w' (some g)) : Sl w' 4 v (insR gs) := by
  obtain ⟨A, n, c, rfl, hA⟩ := h
  rcases Nat.eq_zero_or_pos n with h0 | h0
  · subst h0
    exact ⟨A, 0, c, rfl, hA.len, hA.cap, hA.max, fun h => absurd h (by omega)⟩
  · refine ⟨A, n, c, rfl, hA.grown hg fun b off e => ?_⟩
    obtain ⟨b', off', e', hb, he⟩ := hA.at_ h0
    rw [e] at e'
    cases e'
    intro e2
    subst e2
    obtain ⟨_, _, _, _, hrd⟩ := hr
    have hl := hA.len
    have hr0 : (insR gs)[0]? = some ((insR gs)[0]'(by omega)) := List.getElem?_eq_getElem _
    have hlen : ((insR gs)[0]'(by omega)).length = 4 := insR_rows gs _ (List.getElem_mem _)
    have h6 := he 0 _ hr0 3 _ (List.getElem?_eq_getElem (by rw [hlen]; omega))
    rw [hrd.blk.cell] at h6
    simp at h6

set_option maxHeartbeats 1000000 in
theorem DrawCodeOk_any (v : Value) (ys : List Int) (w : World) (hs : Sl w 1 v (u8s ys)) (hb : ∀ y ∈ ys, 0 ≤ y ∧ y ≤ 255) :
    Calls Tryd.prog 15 #[v] w fun e w' => ∃ (v' : Value) (gs : List In4), e = .returned v' ∧ Sl w' 4 v' (insR gs) ∧ gs.length ≤ 1000 ∧ Below w.heap.size w w' := by
  have HS := Lib.hid hs; have HB := Lib.hid hb
  obtain ⟨A, n, c, rfl, -⟩ := hs
  clear hb
  go_enter Tryd.func15, Tryd.ntmps15
  go_wp2_with fail
  refine (l1Open_any _ ys _ HS.out HB.out).mono ?_; rintro e w1 ⟨rfl, r1, b1⟩
  go_wp2_with fail
  refine (l11Code_any w.heap.size 0 _ r1 (by omega)).mono ?_; rintro e w2 ⟨v2, gs, q, rfl, hs2, hl2, g2, r2, hq⟩
  have D2 : Dq w1 w2 w.heap.size q := (Dq.start r1).step g2 r2
  have HS2 := Lib.hid hs2; clear hs2 r1 g2 r2
  go_wp2_with fail
  refine (pick_any w.heap.size q 2 _ D2.rd (by omega)).mono ?_; rintro e w3 ⟨k3, rfl, a3, b3, g3, r3⟩
  have D3 := D2.step g3 r3
  have HS3 := Lib.hid (HS2.out.apartC D2.rd g3)
  clear g3 r3 b3 D2
  by_cases hk : k3 = 0
  · subst hk
    go_wp2_with fail
    refine (l11Bent_any w.heap.size (q + 1) v2 gs _ D3.rd (by omega) HS3.out (by omega)).mono ?_; rintro e w4 ⟨v4, gs4, q4, rfl, hs4, hl4, g4, r4⟩
    have D4 := D3.step g4 r4
    have HS4 := Lib.hid hs4; clear hs4 g4 r4
    go_wp2
    go_ret
    exact ⟨v4, gs4, rfl, HS4.out, hl4, b1.trans (below_of_grown D4.grown (Nat.le_refl _) D4.lt)⟩
  · have hd : (k3 == 0) = false := by simp; omega
    go_wp2
    go_ret
    exact ⟨v2, gs, rfl, HS3.out, by omega, b1.trans (below_of_grown D3.grown (Nat.le_refl _) D3.lt)⟩

namespace codeFar
set_option maxRecDepth 100000 in
set_option maxHeartbeats 8000000 in
theorem walk (v : Value) (ys : List Int) (w : World) (hp : Pow w) (h1 : Sl w 1 v (u8s ys)) (hb1 : ∀ y ∈ ys, 0 ≤ y ∧ y ≤ 255) :
    Calls Tryd.prog 4 #[v] w fun e w' => e = .returned (.bool true) ∧ Below w.heap.size w w' := by
  have HS := Lib.hid h1; have HB := Lib.hid hb1
  obtain ⟨A1, n1, c1, rfl, hA1⟩ := h1
  have hm1 := hA1.max; have hc1 := hA1.cap
  unfold maxLen at hm1
  clear hA1 hb1
  by_cases hn1 : n1 ≤ 1048576
  · go_enter Tryd.func4, Tryd.ntmps4
    go_wp2_with fail
    refine (DrawCodeOk_any _ ys _ HS.out HB.out).mono ?_; rintro e w1 ⟨v1, x, rfl, hs1, hl1, b1⟩
    have HX1 := Lib.hid hs1
    obtain ⟨A, n, c, rfl, hA⟩ := hs1
    have hn : x.length = n := by have := hA.len; rwa [insR_len] at this
    have hca := hA.cap
    have hma := hA.max
    unfold maxLen at hma
    have HA := Lib.hid hA; clear hA
    go_wp2_with fail
    refine (CodeOk_any _ x _ HX1.out (hp.below b1)).mono ?_; rintro e w2 ⟨rfl, b2⟩
    have HX2 := Lib.hid (HX1.out.below b2); have HA2 := Lib.hid (HA.out.below b2)
    have b02 := below_then b1 b2
    go_wp2_with fail
    refine (sCodeOk_any _ x _ HX2.out).mono ?_; rintro e w3 ⟨rfl, b3⟩
    have HX3 := Lib.hid (HX2.out.below b3); have HA3 := Lib.hid (HA2.out.below b3)
    have b03 := below_then b02 b3
    have hOK := Lib.hid (fun h : codeOkB x = true => codeOkB_iff.1 h)
    generalize codeOkB x = ok at *
    have hook : (ok != ok) = false := by simp
    go_wp2_with fail
    refine (CodeWrite_any _ x _ HX3.out (hp.below b03)).mono ?_; rintro e w4 ⟨rfl, b4⟩
    have HX4 := Lib.hid (HX3.out.below b4); have HA4 := Lib.hid (HA3.out.below b4)
    have b04 := below_then b03 b4
    go_wp2_with fail
    refine (sCodeWrite_any _ x _ HX4.out).mono ?_; rintro e w5 ⟨rfl, b5⟩
    have HA5 := Lib.hid (HA4.out.below b5)
    have b05 := below_then b04 b5
    clear HX1 HX2 HX3 HX4 HA HA2 HA3 HA4 b1 b2 b3 b4 b5 b02 b03 b04
    generalize (⟨(codeOut x).toArray⟩ : ByteArray) = T
    have hz5 := b05.size
    go_wp2
    go_loopw [5] (fun i wr => ∃ k : Nat, k ≤ n ∧ i = .int .i64 k ∧ Below w5.heap.size w5 wr) (fun i _ => (n - intOf i).toNat)
    case atStart => exact ⟨0, Nat.zero_le _, rfl, Below.refl _ _⟩
    case round =>
      obtain ⟨k, hk, rfl, hbr⟩ := hrel
      by_cases hkn : k < n
      · have hkni : (k : Int) < n := by omega
        cases ok
        case' false =>
          go_wp2
          go_ret
          exact ⟨rfl, b05.trans (hbr.mono hz5)⟩
        case' true =>
          have hok := hOK.out rfl
          obtain ⟨b, off, p, rfl, hab, hgp, hcell⟩ := ins_get HA5.out hkn
          obtain ⟨c0, c1, c2, c3⟩ := hcell _ _ hbr hab
          have hio := hok.1.2.2 k p (by omega) hgp
          rw [hn] at hio
          obtain ⟨po, pk, py, pn⟩ := p
          simp only [insOk] at c0 c1 c2 c3 hio
          have hbd : Below w5.heap.size w5 wr.drew := hbr.drew
          have HG := Lib.hid hgp
          clear hok hcell hgp
          rcases hio with ⟨rfl, -, -, -, hle⟩ | ⟨rfl, -, -, -, hle⟩ | ⟨ho, -, ⟨hy0, hy6⟩, ⟨hn0, hn6⟩, hyl, hnl⟩ | ⟨rfl, ⟨hk0, hkl⟩, -, -⟩ | ⟨rfl, -, -, -⟩
          · have l1 : ((k : Int) + 1) < n := by omega
            have l2 : ¬ ((n : Int) ≤ (k : Int) + 1) := by omega
            have l3 : ¬ ((k : Int) + 1 < k) := by omega
            go_wp2
            exact ⟨⟨k + 1, by omega, by go_num, hbr⟩, by simp [intOf]; omega⟩
          · have l1 : ((k : Int) + 1) < n := by omega
            have l2 : ¬ ((n : Int) ≤ (k : Int) + 1) := by omega
            have l3 : ¬ ((k : Int) + 1 < k) := by omega
            go_wp2
            exact ⟨⟨k + 1, by omega, by go_num, hbr⟩, by simp [intOf]; omega⟩
          · have l4 : ¬ ((6 : Int) < py) := by omega
            have l5 : ¬ ((6 : Int) < pn) := by omega
            have l6 : ¬ (py < 0) := by omega
            have l7 : ¬ (pn < 0) := by omega
            by_cases hyn : pn < py
            case' pos =>
              have l1 : ((k : Int) + 1 + py) < n := by omega
              have l2 : ¬ ((n : Int) ≤ (k : Int) + 1 + py) := by omega
              have l3 : ¬ ((k : Int) + 1 + py < k) := by omega
            case' neg =>
              have l1 : ((k : Int) + 1 + pn) < n := by omega
              have l2 : ¬ ((n : Int) ≤ (k : Int) + 1 + pn) := by omega
              have l3 : ¬ ((k : Int) + 1 + pn < k) := by omega
            all_goals
              rcases ho with rfl | rfl
            all_goals
              go_wp2
              go_region
              go_wp2
              exact ⟨⟨k + 1, by omega, by go_num, hbd⟩, by simp [intOf]; omega⟩
          · have l1 : ((k : Int) + 1 + pk) < n := by omega
            have l2 : ¬ ((n : Int) ≤ (k : Int) + 1 + pk) := by omega
            have l3 : ¬ ((k : Int) + 1 + pk < k) := by omega
            go_wp2
            exact ⟨⟨k + 1, by omega, by go_num, hbr⟩, by simp [intOf]; omega⟩
          · have l1 : ¬ ((n : Int) ≤ (k : Int)) := by omega
            go_wp2
            exact ⟨⟨k + 1, by omega, by go_num, hbr⟩, by simp [intOf]; omega⟩
      · go_wp2
        go_ret
        exact ⟨rfl, b05.trans (hbr.mono hz5)⟩
  · go_enter Tryd.func4, Tryd.ntmps4
    have hgt : (1048576 : Int) < n1 := by omega
    go_wp2
    go_ret
    exact ⟨rfl, Below.refl _ _⟩
end codeFar
end Go.Proofs.YtoibocaaeimplaaDoor
