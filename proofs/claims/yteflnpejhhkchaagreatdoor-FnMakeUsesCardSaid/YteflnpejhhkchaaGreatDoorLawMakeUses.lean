/- The law that a program loads nothing that its policy does not look at, walked: FnMakeUses returns true. -/
import Derived.Test.YteflnpejhhkchaaGreatDoorDrawPolW
import Derived.Test.YteflnpejhhkchaaGreatDoorUses
import Derived.Test.YteflnpejhhkchaaGreatDoorLinesI
import Derived.Test.YteflnpejhhkchaaGreatDoorMakeA
import Derived.Test.YteflnpejhhkchaaGreatDoorWgCode
namespace Go.Proofs.YteflnpejhhkchaaGreatDoor
open Go.RowKit Go.WideShapes Go.ChangeShapes Go.ChangeAt
set_option linter.unusedSimpArgs false
set_option linter.unusedVariables false

/-- Letters that came in. -/
theorem u8s_argU {H : Type} {enc : TypeId × Value → H} {w : World} {base : Nat} {spare : Nat → Bool} {held : Bool} {fuel : Nat} {cs : List Value} {x : DataW H × List MemPlace}
    (h : DataW.trod enc Tryz.prog w base spare held fuel 22 cs = some x) : ∃ (v : Value) (ys : List Int), cs = [v] ∧ Sl w 1 v (u8s ys) ∧ ∀ y ∈ ys, 0 ≤ y ∧ y ≤ 255 := by
  obtain ⟨v, css, rfl, hs, hr⟩ := slice_reads (size := 1) (R := fun r => ∃ p : { n : Int // 0 ≤ n ∧ n ≤ 255 }, r = [Value.int .u8 p.1]) Tryz.underlying22 (by kernel_rfl) (by omega) (fun n r y hy => by
    obtain ⟨m, hc, _, hw⟩ := DataW.trod_int Tryz.underlying5 hy
    exact ⟨⟨m, by simpa [Lit.wf, IntKind.min, IntKind.max, IntKind.signed, IntKind.bits] using hw⟩, hc⟩) h
  obtain ⟨g, rfl⟩ := all_map css (fun r hr' => (hr r hr').1)
  refine ⟨v, g.map (·.1), rfl, by simpa [u8s, List.map_map, Function.comp_def] using hs, fun x hx => ?_⟩
  obtain ⟨p, _, rfl⟩ := List.mem_map.1 hx
  exact p.2
theorem codeEq_same (g : List In4) : codeEq g g = true := codeEq_iff.2 rfl
theorem intsEq_same (g : List Int) : intsEq g g = true := intsEq_iff.2 rfl
theorem PolPost.outU {w : World} {e : Ending} {w' : World} (h : PolPost w e w') : ∃ (po : Pol) (A : Option Addr) (n c : Nat), e = .returned (.agg #[.slice A n c, .int .i64 po.els]) ∧ PolIs w' po (.agg #[.slice A n c, .int .i64 po.els]) ∧ Below w.heap.size w w' := by
  obtain ⟨po, v, B, rfl, hp, _, hb, _⟩ := h
  obtain ⟨A, n, c, rfl⟩ := hp.form
  exact ⟨po, A, n, c, rfl, hp.is, hb⟩
theorem take_snoc1 {xs : List Int} {k : Nat} {y : Int} (h : xs[k]? = some y) : xs.take (k + 1) = xs.take k ++ [y] := by
  rw [List.take_add_one, h]; rfl
theorem calls_uses {p : Pol} {x : List In4} {ok : Bool} (h : ∃ g, GraphIs p g ∧ MakeIs g x ok) {z : Int} (hz : z ∈ callsOf x) : z ∈ usesOf p := by
  unfold callsOf at hz
  split at hz
  · obtain ⟨h1, h2⟩ := (mem_fsTo _ _ _ 5).1 hz
    obtain ⟨h3, h4⟩ := made_uses h h2
    unfold usesOf
    rw [if_pos h3]
    exact (mem_fuTo _ _ 5).2 ⟨⟨h1.1, by omega⟩, h4⟩
  · simp at hz

set_option maxRecDepth 100000 in
set_option maxHeartbeats 4000000 in
theorem makeUses_law (v : Value) (ys : List Int) (w : World) (hs : Sl w 1 v (u8s ys)) (hb : ∀ y ∈ ys, 0 ≤ y ∧ y ≤ 255) (hpw : Pow w) :
    Calls Tryz.prog 4 #[v] w fun e w' => e = .returned (.bool true) ∧ Below w.heap.size w w' := by
  have HS := Lib.hid hs; have HB := Lib.hid hb; have HPW := Lib.hid hpw
  obtain ⟨A0, n0, c0, rfl, hA0⟩ := hs
  have hc0 := hA0.cap
  have hm0 := hA0.max
  unfold maxLen at hm0
  clear hA0 hb hpw
  by_cases hlen : n0 ≤ 1048576
  case neg =>
    go_enter Tryz.func4, Tryz.ntmps4
    go_wp2
    go_ret
    exact ⟨rfl, Below.refl _ _⟩
  go_enter Tryz.func4, Tryz.ntmps4
  go_wp2_with fail
  refine (DrawMakeCode_any _ ys w HS.out HB.out).mono ?_; intro e w1 hp1
  obtain ⟨po, A, n, c, rfl, hpo, hb1⟩ := hp1.outU
  obtain ⟨w2, hw2⟩ : ∃ W, W = w1.alloc (.cells #[.slice A n c, .int .i64 po.els] 26) := ⟨_, rfl⟩
  have K2 : Hid (Blk w2 w1.heap.size 26 #[.slice A n c, .int .i64 po.els]) := by rw [hw2]; exact Lib.hid (Blk.new _ _ _)
  have HB2 : Hid (Below w.heap.size w w2) := by rw [hw2]; exact Lib.hid (hb1.alloc hb1.size _)
  have HP2 : Hid (PolIs w2 po (.agg #[.slice A n c, .int .i64 po.els])) := by rw [hw2]; exact Lib.hid (hpo.below (by go_grown))
  have HW2 := Lib.hid hw2
  clear hpo hb1 hw2 hp1 HS HB
  go_wp2_with fail
  rw [← HW2.out]
  refine (iMakeCode_any po _ w2 HP2.out (HPW.out.below HB2.out)).mono ?_; rintro e w3 ⟨v3, x, ok, b3, rfl, hx, hb3, ho3, hbl3⟩
  have HX := Lib.hid hx
  have HB3 := Lib.hid (below_then HB2.out hbl3); have HP3 := Lib.hid (HP2.out.below hbl3); have K3 := Lib.hid (K2.out.below hbl3 K2.out.lt)
  have S3 := Lib.hid (SlA.of_own ho3 (insR_len x) (insR_rows x))
  have y0 := (show _ = some (Value.slice A n c) from K3.out.cell 0); have y1 := (show _ = some (Value.int .i64 po.els) from K3.out.cell 1)
  clear hx hb3 ho3 hbl3 HW2 HB2 HP2
  go_wp2_with fail
  refine (gMakeCode_any po _ w3 HP3.out).mono ?_; rintro e w4 ⟨v4, x', ok', b4, rfl, hx', hb4, ho4, hbl4⟩
  obtain ⟨rfl, rfl⟩ := HX.out.one hx'
  have HB4 := Lib.hid (below_then HB3.out hbl4); have HP4 := Lib.hid (HP3.out.below hbl4); have K4 := Lib.hid (K3.out.below hbl4 K3.out.lt)
  have S34 := Lib.hid (S3.out.below hbl4); have S4 := Lib.hid (SlA.of_own ho4 (insR_len x) (insR_rows x))
  have hne : (ok != ok) = false := by simp
  clear hx' hb4 ho4 hbl4 y0 y1
  have y0 := (show _ = some (Value.slice A n c) from K4.out.cell 0); have y1 := (show _ = some (Value.int .i64 po.els) from K4.out.cell 1)
  go_wp2_with fail
  refine (iPolicyUses_any po _ w4 HP4.out (HPW.out.below HB4.out)).mono ?_; rintro e w5 ⟨v5, rfl, ho5, b5⟩
  obtain ⟨A5, n5, c5, hv5, hn5⟩ := own_ints ho5
  obtain ⟨M, hM⟩ : ∃ M, M = usesOf po := ⟨_, rfl⟩
  rw [← hM] at ho5 hn5
  have HMM := Lib.hid hM
  have HN5 := Lib.hid hn5
  clear hM hn5
  subst hv5
  have U5 := Lib.hid (SlA.of_own ho5 (ints_len _) (ints_rows _))
  have HB5 := Lib.hid (below_then HB4.out b5); have HP5 := Lib.hid (HP4.out.below b5); have K5 := Lib.hid (K4.out.below b5 K4.out.lt)
  have S35 := Lib.hid (S34.out.below b5); have S45 := Lib.hid (S4.out.below b5)
  clear ho5 b5 y0 y1
  go_wp2_with fail
  refine (wgCode_any v3 v4 x x w5 S35.out S45.out).mono ?_; rintro e w6 ⟨rfl, b6⟩
  rw [codeEq_same]
  have HB6 := Lib.hid (below_then HB5.out b6); have HP6 := Lib.hid (HP5.out.below b6); have K6 := Lib.hid (K5.out.below b6 K5.out.lt)
  have S36 := Lib.hid (S35.out.below b6)
  have U6 := Lib.hid (U5.out.below b6)
  clear b6
  have y0 := (show _ = some (Value.slice A n c) from K6.out.cell 0); have y1 := (show _ = some (Value.int .i64 po.els) from K6.out.cell 1)
  go_wp2_with fail
  refine (sPolicyUses_any po _ w6 HP6.out).mono ?_; rintro e w7 ⟨v7, rfl, ho7, b7⟩
  rw [← HMM.out] at ho7
  have V7 := Lib.hid (SlA.of_own ho7 (ints_len _) (ints_rows _))
  have HB7 := Lib.hid (below_then HB6.out b7)
  have S37 := Lib.hid (S36.out.below b7); have U7 := Lib.hid (U6.out.below b7)
  clear ho7 b7 y0 y1
  go_wp2_with fail
  refine (wgInts_any _ v7 _ _ w7 U7.out V7.out).mono ?_; rintro e w8 ⟨rfl, b8⟩
  rw [intsEq_same]
  have HB8 := Lib.hid (below_then HB7.out b8)
  have S38 := Lib.hid (S37.out.below b8); have U8 := Lib.hid (U7.out.below b8)
  clear b8
  go_wp2_with fail
  refine (CodeCalls_any v3 x w8 S38.out (HPW.out.below HB8.out)).mono ?_; rintro e w9 ⟨v9, rfl, ho9, b9⟩
  obtain ⟨A9, n9, c9, hv9, hn9⟩ := own_ints ho9
  obtain ⟨N, hN⟩ : ∃ N, N = callsOf x := ⟨_, rfl⟩
  rw [← hN] at ho9 hn9
  subst hv9
  have L9 := Lib.hid (SlA.of_own ho9 (ints_len _) (ints_rows _))
  have HB9 := Lib.hid (below_then HB8.out b9)
  have U9 := Lib.hid (U8.out.below b9)
  have HM : Hid (∀ z ∈ N, z ∈ M) := Lib.hid (fun z hz => by rw [HMM.out]; rw [hN] at hz; exact calls_uses HX.out hz)
  clear ho9 b9 HB3 HB4 HB5 HB6 HB7 HB8 HP3 HP4 HP5 HP6 K2 K3 K4 K5 K6 S3 S34 S4 S35 S45 S36 S37 S38 U5 U6 U7 U8 V7 HX HPW hN HMM hne
  have hu := U9.out
  obtain ⟨_, _, _, hsv, hUA⟩ := hu
  cases hsv
  have hl := L9.out
  obtain ⟨_, _, _, hsv, hLA⟩ := hl
  cases hsv
  have hcu := hUA.cap
  have hmu := hUA.max
  have hcl := hLA.cap
  have hml := hLA.max
  unfold maxLen at hmu hml
  have HUA := Lib.hid hUA; have HLA := Lib.hid hLA
  clear hUA hLA U9 L9 hn9
  go_wp2
  go_loopw [10] (fun i wr => ∃ a : Nat, a ≤ n9 ∧ i = .int .i64 a ∧ Below w9.heap.size w9 wr) (fun i _ => n9 - (intOf i).toNat)
  case atStart => exact ⟨0, by omega, rfl, Below.refl _ _⟩
  case round =>
    obtain ⟨a, ha, rfl, hbr⟩ := hrel
    have hsz := hbr.size
    by_cases han : a < n9
    · have hai : (a : Int) < n9 := by omega
      obtain ⟨lb, lo, z, rfl, hlb, hz, hlc⟩ := ints_get HLA.out han
      have HZ := Lib.hid (HM.out z (List.mem_of_getElem? hz))
      have HLC := Lib.hid hlc
      clear hz hlc
      go_wp2
      go_loopw [11, 12] (fun v i wr => ∃ k : Nat, k ≤ n5 ∧ i = .int .i64 k ∧ v = .bool (decide (z ∈ M.take k)) ∧ Below w9.heap.size w9 wr) (fun _ i _ => n5 - (intOf i).toNat)
      case atStart => exact ⟨0, by omega, rfl, by simp, hbr⟩
      case round =>
        clear hbr hsz
        obtain ⟨k, hk, rfl, rfl, hbr⟩ := hrel
        have hsz := hbr.size
        by_cases hkn : k < n5
        · have hki : (k : Int) < n5 := by omega
          obtain ⟨ub, uo, y, rfl, hub, hy, huc⟩ := ints_get HUA.out hkn
          have HY := Lib.hid (take_snoc1 hy)
          have q1 := huc wr _ hbr hub
          have q2 := HLC.out wr _ hbr hlb
          clear hy huc
          by_cases hin : z ∈ M.take k
          · rw [show decide (z ∈ M.take k) = true from by simpa only [decide_eq_true_eq] using hin]
            have HD : Hid (decide (z ∈ M.take (k + 1)) = true) := Lib.hid (by simp only [decide_eq_true_eq]; rw [HY.out]; exact List.mem_append_left _ hin)
            clear hin
            go_wp2
            go_region
            all_goals go_wp2
            all_goals exact ⟨⟨k + 1, by omega, by go_num, by rw [HD.out], by go_grown⟩, by simp [intOf]; try omega⟩
          · rw [show decide (z ∈ M.take k) = false from by simpa only [decide_eq_false_iff_not] using hin]
            by_cases he : y = z
            · have hd : (y == z) = true := by simp [he]
              have HD : Hid (decide (z ∈ M.take (k + 1)) = true) := Lib.hid (by simp only [decide_eq_true_eq]; rw [HY.out, he]; exact List.mem_append_right _ (by simp))
              clear hin he
              go_wp2
              go_region
              all_goals go_wp2
              all_goals exact ⟨⟨k + 1, by omega, by go_num, by rw [HD.out], by go_grown⟩, by simp [intOf]; try omega⟩
            · have hd : (y == z) = false := by simp [he]
              have HD : Hid (decide (z ∈ M.take (k + 1)) = false) := Lib.hid (by simp only [decide_eq_false_iff_not]; rw [HY.out]; intro h; rcases List.mem_append.1 h with h | h; exact hin h; exact he (List.mem_singleton.1 h).symm)
              clear hin he
              go_wp2
              go_region
              all_goals go_wp2
              all_goals exact ⟨⟨k + 1, by omega, by go_num, by rw [HD.out], by go_grown⟩, by simp [intOf]; try omega⟩
        · obtain rfl : k = n5 := by omega
          have HD : Hid (decide (z ∈ M.take k) = true) := Lib.hid (by simp only [decide_eq_true_eq]; rw [List.take_of_length_le (by rw [HN5.out]; exact Nat.le_refl _)]; exact HZ.out)
          rw [HD.out]
          go_wp2
          exact ⟨⟨a + 1, by omega, by go_num, by go_grown⟩, by simp [intOf]; try omega⟩
    · obtain rfl : a = n9 := by omega
      go_wp2
      go_ret
      exact ⟨rfl, below_then HB9.out hbr⟩
end Go.Proofs.YteflnpejhhkchaaGreatDoor
