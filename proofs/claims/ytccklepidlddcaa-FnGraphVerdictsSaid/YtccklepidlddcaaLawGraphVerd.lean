/- FnGraphVerdicts walked: it returns true for every two rows of letters. -/
import Derived.Test.YtccklepidlddcaaGVerdR
namespace Go.Proofs.Ytccklepidlddcaa
open Go.RowKit
set_option linter.unusedSimpArgs false
set_option linter.unusedVariables false

theorem intsEqV (g : List Int) : intsEq g g = true := intsEq_iff.2 rfl
theorem intsGetV {w : World} {A : Option Addr} {n c : Nat} {xs : List Int} (h : SlA w 1 A n c (ints xs)) {k : Nat} (hk : k < n) : ∃ b off x, A = some ⟨b, off, none⟩ ∧ b < w.heap.size ∧ xs[k]? = some x ∧ (∀ (w' : World) (B : Nat), Below B w w' → b < B → w'.cell? ⟨b, off + k, none⟩ = some (.int .i64 x)) := by
  have hl := h.len
  rw [ints_len] at hl
  obtain ⟨b, off, e, hb, hc⟩ := intsCellRV h hk
  refine ⟨b, off, (xs[k]?).getD 0, e, hb, ?_, hc⟩
  rw [List.getElem?_eq_getElem (by omega)]
  rfl
/-- The verdict is one of the first so many. -/
def foundTo (b : Bool) (xs : List Int) (r : Int) (k : Nat) : Bool := b || (xs.take k).any (fun x => x == r)
theorem foundTo_zero (b : Bool) (xs : List Int) (r : Int) : foundTo b xs r 0 = b := by simp [foundTo]
theorem foundTo_yes {b : Bool} {xs : List Int} {r : Int} {k : Nat} (h : foundTo b xs r k = true) : foundTo b xs r (k + 1) = true := by
  simp only [foundTo, Bool.or_eq_true] at h ⊢
  rcases h with h | h
  · exact .inl h
  · refine .inr ?_
    rw [List.any_eq_true] at h ⊢
    obtain ⟨x, hx, e⟩ := h
    exact ⟨x, List.mem_of_mem_take (i := k) (by rw [List.take_take]; rwa [Nat.min_eq_left (by omega)]), e⟩
theorem foundTo_next {b : Bool} {xs : List Int} {r x : Int} {k : Nat} (h : foundTo b xs r k = false) (hx : xs[k]? = some x) : foundTo b xs r (k + 1) = (x == r) := by
  simp only [foundTo, Bool.or_eq_false_iff] at h ⊢
  rw [List.take_add_one, hx, h.1]
  simp [h.2]
theorem foundTo_all {b : Bool} {xs : List Int} {r : Int} (h : b = true ∨ r ∈ xs) : foundTo b xs r xs.length = true := by
  simp only [foundTo, List.take_length, Bool.or_eq_true, List.any_eq_true]
  rcases h with h | h
  · exact .inl h
  · exact .inr ⟨r, h, by simp⟩
theorem verdictsOf_no {g : List Pt} (h : ¬ graphOk g) : verdictsOf g = [] := by unfold verdictsOf; rw [if_neg h]
theorem own_sl {w : World} {base : Nat} {v : Value} {xs : List Int} (h : w.ownsRow base 3 1 v xs.length (ints xs).flatten) : Sl w 1 v (ints xs) := SlA.of_own h (by rw [ints_len]) (fun r hr => by obtain ⟨y, _, rfl⟩ := List.mem_map.1 hr; rfl)

namespace lawGraphVerdicts
set_option maxHeartbeats 8000000 in
theorem walk (v vm : Value) (ys zs : List Int) (w : World) (hs : Sl w 1 v (u8s ys)) (hb : ∀ y ∈ ys, 0 ≤ y ∧ y ≤ 255) (hsm : Sl w 1 vm (u8s zs)) (hbm : ∀ y ∈ zs, 0 ≤ y ∧ y ≤ 255) :
    Calls Try.prog 3 #[v, vm] w fun e w' => e = .returned (.bool true) ∧ Below w.heap.size w w' := by
  have HS := Lib.hid hs; have HB := Lib.hid hb; have HSM := Lib.hid hsm; have HBM := Lib.hid hbm
  obtain ⟨A, n, c, rfl, hA⟩ := hs
  obtain ⟨Am, nm, cm, rfl, hAm⟩ := hsm
  have hm := hA.max
  have hc := hA.cap
  have hmm := hAm.max
  have hcm := hAm.cap
  unfold maxLen at hm hmm
  clear hb hbm hA hAm
  by_cases hn : n ≤ 1048576
  case neg =>
    go_enter Try.func3, Try.ntmps3
    go_wp2
    go_ret
    exact ⟨rfl, Below.refl _ _⟩
  by_cases hn2 : nm ≤ 1048576
  case neg =>
    go_enter Try.func3, Try.ntmps3
    go_wp2
    go_ret
    exact ⟨rfl, Below.refl _ _⟩
  go_enter Try.func3, Try.ntmps3
  go_wp2_with fail
  refine (DrawGraphVerdicts_any _ ys w HS.out HB.out).mono ?_; rintro e w1 ⟨v1, g, rfl, hs1, hl1, b1⟩
  have hs1' := hs1
  obtain ⟨A1, n1, c1, rfl, hA1⟩ := hs1'
  have hn1 : g.length = n1 := by have := hA1.len; simpa using this
  have HS1 := Lib.hid hs1; have B1 := Lib.hid b1; clear hs1 hA1 b1
  go_wp2_with fail
  refine (GraphVerdicts_any _ g w1 HS1.out).mono ?_; rintro e w2 ⟨lv, rfl, ho2, b2⟩
  obtain ⟨A2, n2, c2, rfl, hA2⟩ := own_sl ho2
  have hn2' : (verdictsOf g).length = n2 := by have := hA2.len; rwa [ints_len] at this
  have hc2 := hA2.cap
  have hm2 := hA2.max
  unfold maxLen at hm2
  have HA2 := Lib.hid hA2; have HN2 := Lib.hid hn2'; have B2 := Lib.hid b2
  clear ho2 b2 hA2
  go_wp2_with fail
  refine (sGraphVerdicts_any _ g w2 (HS1.out.below B2.out)).mono ?_; rintro e w3 ⟨lv3, rfl, ho3, b3⟩
  have HSL3 := Lib.hid (own_sl ho3)
  obtain ⟨A3, n3, c3, rfl, hA3⟩ := HSL3.out
  have B3 := Lib.hid (below_then B2.out b3)
  have HA23 := Lib.hid (HA2.out.below b3)
  clear ho3 b3 hA3
  go_wp2_with fail
  refine (wgInts_any _ _ (verdictsOf g) (verdictsOf g) w3 ⟨_, _, _, rfl, HA23.out⟩ HSL3.out).mono ?_; rintro e w4 ⟨rfl, b4⟩
  rw [intsEqV]
  have B4 := Lib.hid (below_then B3.out b4); have HA24 := Lib.hid (HA23.out.below b4)
  clear b4
  go_wp2_with fail
  refine (GraphOk_any _ g w4 (HS1.out.below B4.out)).mono ?_; rintro e w5 ⟨rfl, b5⟩
  have B5 := Lib.hid (below_then B4.out b5); have HA25 := Lib.hid (HA24.out.below b5)
  clear b5
  go_wp2_with fail
  refine (sGraphOk_any _ g w5 (HS1.out.below B5.out)).mono ?_; rintro e w6 ⟨rfl, b6⟩
  have B6 := Lib.hid (below_then B5.out b6); have HA26 := Lib.hid (HA25.out.below b6)
  have hd3 : (graphOkB g != graphOkB g) = false := by simp
  clear b6
  go_wp2_with fail
  refine (sGraphOk_any _ g w6 (HS1.out.below B6.out)).mono ?_; rintro e w7 ⟨rfl, b7⟩
  have B7 := Lib.hid (below_then B6.out b7); have HA27 := Lib.hid (HA26.out.below b7)
  clear b7
  cases hok : graphOkB g with
  | false =>
    have hno : ¬ graphOk g := fun h => by rw [graphOkB_iff.2 h] at hok; cases hok
    obtain rfl : 0 = n2 := by rw [← HN2.out, verdictsOf_no hno]; rfl
    have HEND := Lib.hid (below_then B1.out B7.out)
    go_wp2
    go_ret
    exact ⟨rfl, HEND.out⟩
  | true =>
    have HG := Lib.hid (graphOkB_iff.1 hok)
    have HA7 := HA27
    have HSM7 := Lib.hid (HSM.out.below (below_then B1.out B7.out))
    clear hok
    go_wp2_with fail
    refine (DrawGraphRun_any _ zs w7 HSM7.out HBM.out).mono ?_; rintro e w8 ⟨v8, n8, av8, xs8, rfl, hs8, b8⟩
    have hs8' := hs8
    obtain ⟨A8, m8, c8, rfl, -⟩ := hs8'
    have HS8 := Lib.hid hs8
    have B8 := Lib.hid (below_then B7.out b8)
    have HA8 := Lib.hid (HA7.out.below b8)
    clear b8 hs8
    go_wp2_with fail
    obtain ⟨W9, hW9⟩ : ∃ W, W = w8.alloc (.cells #[.int .i64 n8, .slice A8 m8 c8] 30) := ⟨_, rfl⟩
    have K9 : Hid (Blk W9 w8.heap.size 30 #[.int .i64 n8, .slice A8 m8 c8]) := by rw [hW9]; exact Lib.hid (Blk.new _ _ _)
    have b9 : Below w8.heap.size w8 W9 := by rw [hW9]; go_grown
    have B9 := Lib.hid (below_then B8.out b9); have HA9 := Lib.hid (HA8.out.below b9); have HS9 := Lib.hid (HS8.out.below b9); have HW9 := Lib.hid hW9
    clear hW9 b9
    rw [← HW9.out]
    refine (GraphRun_any _ g n8 _ xs8 W9 (HS1.out.below B9.out) HG.out HS9.out).mono ?_; rintro e wa ⟨r, rfl, hr, ba⟩
    have HR := Lib.hid hr; have BA := Lib.hid (below_then B9.out ba); have HAA := Lib.hid (HA9.out.below ba); have HSA := Lib.hid (HS9.out.below ba)
    have x0 := (show _ = some (Value.int .i64 n8) from (K9.out.below ba K9.out.lt).cell 0); have x1 := (show _ = some (Value.slice A8 m8 c8) from (K9.out.below ba K9.out.lt).cell 1)
    clear hr ba
    go_wp2_with fail
    refine (sCallOk_any n8 _ xs8 wa HSA.out).mono ?_; rintro e wb ⟨rfl, bb⟩
    have BB := Lib.hid (below_then BA.out bb); have HAB := Lib.hid (HAA.out.below bb)
    have HFA : Hid (foundTo (!callOkB n8 xs8) (verdictsOf g) r (verdictsOf g).length = true) := Lib.hid (foundTo_all (by
      cases hc : callOkB n8 xs8 with
      | false => exact .inl rfl
      | true => exact .inr (HR.out hc)))
    obtain ⟨f0, hf0⟩ : ∃ f0, f0 = callOkB n8 xs8 := ⟨_, rfl⟩
    rw [← hf0] at HFA
    rw [← hf0]
    clear bb x0 x1 hf0
    go_wp2_with fail
    go_loopw [10, 11] (fun f i wr => ∃ k : Nat, k ≤ n2 ∧ i = .int .i64 k ∧ f = .bool (foundTo (!f0) (verdictsOf g) r k) ∧ Hid (Below wb.heap.size wb wr)) (fun _ i _ => n2 - (intOf i).toNat)
    case atStart => exact ⟨0, by omega, rfl, by rw [foundTo_zero], Lib.hid (Below.refl _ _)⟩
    case round =>
      obtain ⟨k, hk, rfl, rfl, HBL⟩ := hrel
      by_cases hlt : k < n2
      · have hki : (k : Int) < n2 := by omega
        obtain ⟨b, off, x, rfl, hab, hx, hcell⟩ := intsGetV HAB.out hlt
        have c0 := hcell wr _ HBL.out hab
        clear hcell
        cases hf : foundTo (!f0) (verdictsOf g) r k with
        | true =>
          have HN := Lib.hid (foundTo_yes hf)
          clear hf
          go_wp2
          exact ⟨⟨k + 1, by omega, by go_num, by rw [HN.out], HBL⟩, by simp [intOf]; omega⟩
        | false =>
          have HN := Lib.hid (foundTo_next hf hx)
          clear hf hx
          go_wp2
          exact ⟨⟨k + 1, by omega, by go_num, by rw [HN.out], HBL⟩, by simp [intOf]; omega⟩
      · obtain rfl : k = n2 := by omega
        have hki : ¬ (k : Int) < k := by omega
        rw [show foundTo (!f0) (verdictsOf g) r k = true by rw [← HN2.out]; exact HFA.out]
        have BR := Lib.hid (below_then BB.out HBL.out)
        go_wp2_with fail
        refine (GraphTrim_any _ g wr (HS1.out.below BR.out) HG.out).mono ?_; rintro e wc ⟨vc, gc, rfl, hsc, htc, bc⟩
        obtain ⟨t1, t2, t3⟩ := trim_verdicts HG.out htc
        have HSC := Lib.hid hsc; have BC := Lib.hid (below_then BR.out bc)
        obtain ⟨Ac, nc, cc, rfl, -⟩ := hsc
        rw [HN2.out] at t3
        clear htc bc
        go_wp2_with fail
        refine (GraphVerdicts_any _ gc wc HSC.out).mono ?_; rintro e wd ⟨ld, rfl, hod, bd⟩
        obtain ⟨Ad, nd, cd, rfl, hAd⟩ := own_sl hod
        have hnd : (verdictsOf gc).length = nd := by have := hAd.len; rwa [ints_len] at this
        rw [hnd] at t2 t3
        have HEND := Lib.hid (below_then B1.out (below_then BC.out bd))
        clear hod hAd bd hnd
        have g1 : (nd : Int) ≥ 1 := by omega
        have g2 : (nd : Int) ≤ k := by omega
        go_wp2
        go_ret
        exact ⟨rfl, HEND.out⟩
end lawGraphVerdicts
end Go.Proofs.Ytccklepidlddcaa
