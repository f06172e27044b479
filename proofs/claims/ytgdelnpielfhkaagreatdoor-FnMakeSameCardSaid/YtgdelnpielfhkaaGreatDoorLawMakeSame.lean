/- The law that one policy makes one program, walked: FnMakeSame returns true. -/
import Derived.Test.YtgdelnpielfhkaaGreatDoorDrawPolW
import Derived.Test.YtgdelnpielfhkaaGreatDoorCurQ
import Derived.Test.YtgdelnpielfhkaaGreatDoorLinesI
import Derived.Test.YtgdelnpielfhkaaGreatDoorMakeA
import Derived.Test.YtgdelnpielfhkaaGreatDoorPolS3
import Derived.Test.YtgdelnpielfhkaaGreatDoorWgCode
namespace Go.Proofs.YtgdelnpielfhkaaGreatDoor
open Go.RowKit Go.WideShapes Go.ChangeShapes Go.ChangeAt
set_option linter.unusedSimpArgs false
set_option linter.unusedVariables false

/-- Letters that came in. -/
theorem u8s_argU {H : Type} {enc : TypeId × Value → H} {w : World} {base : Nat} {spare : Nat → Bool} {held : Bool} {fuel : Nat} {cs : List Value} {x : DataW H × List MemPlace}
    (h : DataW.trod enc Tryz.prog w base spare held fuel 22 cs = some x) : ∃ (v : Value) (ys : List Int), cs = [v] ∧ Sl w 1 v (u8s ys) ∧ ∀ y ∈ ys, 0 ≤ y ∧ y ≤ 255 := by
  obtain ⟨v, css, rfl, hs, hr⟩ := slice_reads (size := 1) (R := fun r => ∃ p : { n : Int // 0 ≤ n ∧ n ≤ 255 }, r = [Value.int .u8 p.1]) Tryz.underlying22 (by kernel_rfl) (by omega) (fun n r y hy => by
    obtain ⟨m, hc, _, hw⟩ := DataW.trod_int Tryz.underlying5 hy
    exact ⟨⟨m, by simpa [Lit.wf, IntKind.min, IntKind.max, IntKind.signed, IntKind.bits] using hw⟩, hc⟩) h
  obtain ⟨g, rfl⟩ := all_map css (fun r hr' => (hr r hr').1)
  refine ⟨v, g.map (·.1), rfl, by simpa [u8s, List.map_map, Function.comp_def] using hs, fun x hx => ?_⟩
  obtain ⟨p, _, rfl⟩ := List.mem_map.1 hx
  exact p.2
theorem codeEq_same (g : List In4) : codeEq g g = true := codeEq_iff.2 rfl
theorem PolPost.outS {w : World} {e : Ending} {w' : World} (h : PolPost w e w') : ∃ (po : Pol) (A : Option Addr) (n c : Nat), e = .returned (.agg #[.slice A n c, .int .i64 po.els]) ∧ PolIs w' po (.agg #[.slice A n c, .int .i64 po.els]) ∧ Below w.heap.size w w' := by
  obtain ⟨po, v, B, rfl, hp, _, hb, _⟩ := h
  obtain ⟨A, n, c, rfl⟩ := hp.form
  exact ⟨po, A, n, c, rfl, hp.is, hb⟩

set_option maxRecDepth 100000 in
set_option maxHeartbeats 4000000 in
theorem makeSame_law (v : Value) (ys : List Int) (w : World) (hs : Sl w 1 v (u8s ys)) (hb : ∀ y ∈ ys, 0 ≤ y ∧ y ≤ 255) (hpw : Pow w) (hmx : ∃ m : Int, w.cell? ⟨0, 0, none⟩ = some (.int .i64 m)) :
    Calls Tryz.prog 3 #[v] w fun e w' => e = .returned (.bool true) ∧ Below w.heap.size w w' := by
  have HS := Lib.hid hs; have HB := Lib.hid hb; have HPW := Lib.hid hpw; have HMX := Lib.hid hmx
  obtain ⟨A0, n0, c0, rfl, hA0⟩ := hs
  have hc0 := hA0.cap
  have hm0 := hA0.max
  unfold maxLen at hm0
  have h0w : 0 < w.heap.size := by obtain ⟨m, hm⟩ := hmx; exact World.block_lt_of_cell? w ⟨0, 0, none⟩ hm
  clear hA0 hb hpw hmx
  by_cases hlen : n0 ≤ 1048576
  case neg =>
    go_enter Tryz.func3, Tryz.ntmps3
    go_wp2
    go_ret
    exact ⟨rfl, Below.refl _ _⟩
  go_enter Tryz.func3, Tryz.ntmps3
  go_wp2_with fail
  refine (DrawMakeCode_any _ ys w HS.out HB.out).mono ?_; intro e w1 hp1
  obtain ⟨po, A, n, c, rfl, hpo, hb1⟩ := hp1.outS
  obtain ⟨w2, hw2⟩ : ∃ W, W = w1.alloc (.cells #[.slice A n c, .int .i64 po.els] 25) := ⟨_, rfl⟩
  have K2 : Hid (Blk w2 w1.heap.size 25 #[.slice A n c, .int .i64 po.els]) := by rw [hw2]; exact Lib.hid (Blk.new _ _ _)
  have HB2 : Hid (Below w.heap.size w w2) := by rw [hw2]; exact Lib.hid (hb1.alloc hb1.size _)
  have HP2 : Hid (PolIs w2 po (.agg #[.slice A n c, .int .i64 po.els])) := by rw [hw2]; exact Lib.hid (hpo.below (by go_grown))
  have HW2 := Lib.hid hw2
  clear hpo hb1 hw2 hp1 HS HB
  go_wp2_with fail
  rw [← HW2.out]
  refine (iMakeCode_any po _ w2 HP2.out (HPW.out.below HB2.out)).mono ?_; rintro e w3 ⟨v3, x, ok, b3, rfl, hx, hb3, ho3, hbl3⟩
  have HX := Lib.hid hx
  have HB3 := Lib.hid (below_then HB2.out hbl3); have HP3 := Lib.hid (HP2.out.below hbl3); have K3 := Lib.hid (K2.out.below hbl3 K2.out.lt)
  have S3 := Lib.hid (SlA.of_own ho3 (insR_len x) (insR_rows x))
  have y0 := (show _ = some (Value.slice A n c) from K3.out.cell 0); have y1 := (show _ = some (Value.int .i64 po.els) from K3.out.cell 1)
  clear hx hb3 ho3 hbl3 HW2 HB2 HP2
  go_wp2_with fail
  refine (gMakeCode_any po _ w3 HP3.out).mono ?_; rintro e w4 ⟨v4, x', ok', b4, rfl, hx', hb4, ho4, hbl4⟩
  obtain ⟨rfl, rfl⟩ := HX.out.one hx'
  have HB4 := Lib.hid (below_then HB3.out hbl4); have HP4 := Lib.hid (HP3.out.below hbl4); have K4 := Lib.hid (K3.out.below hbl4 K3.out.lt)
  have S34 := Lib.hid (S3.out.below hbl4); have S4 := Lib.hid (SlA.of_own ho4 (insR_len x) (insR_rows x))
  have hne : (ok != ok) = false := by simp
  have heq : (ok == ok) = true := by simp
  clear hx' hb4 ho4 hbl4 y0 y1
  go_wp2_with fail
  refine (wgCode_any v3 v4 x x w4 S34.out S4.out).mono ?_; rintro e w5 ⟨rfl, b5⟩
  rw [codeEq_same]
  have HB5 := Lib.hid (below_then HB4.out b5); have HP5 := Lib.hid (HP4.out.below b5); have K5 := Lib.hid (K4.out.below b5 K4.out.lt)
  have S35 := Lib.hid (S34.out.below b5); have S45 := Lib.hid (S4.out.below b5)
  clear b5
  have y0 := (show _ = some (Value.slice A n c) from K5.out.cell 0); have y1 := (show _ = some (Value.int .i64 po.els) from K5.out.cell 1)
  go_wp2_with fail
  refine (PolicyOk_any po _ w5 HP5.out).mono ?_; rintro e w6 ⟨rfl, b6⟩
  have HB6 := Lib.hid (below_then HB5.out b6); have HP6 := Lib.hid (HP5.out.below b6); have K6 := Lib.hid (K5.out.below b6 K5.out.lt)
  have S36 := Lib.hid (S35.out.below b6); have S46 := Lib.hid (S45.out.below b6)
  clear b6 y0 y1 HB3 HB4 HB5 HP3 HP4 HP5 K2 K3 K4 K5 S3 S34 S4 S35 S45
  cases hpk : polOkB po with
  | false =>
    go_wp2_with fail
    refine (wgCode_any v3 v4 x x w6 S36.out S46.out).mono ?_; rintro e w7 ⟨rfl, b7⟩
    rw [codeEq_same]
    have HEND := Lib.hid (below_then HB6.out b7)
    clear b7
    go_wp2
    go_ret
    exact ⟨rfl, HEND.out⟩
  | true =>
    have HOK := Lib.hid hpk
    clear hpk
    have y0 := (show _ = some (Value.slice A n c) from K6.out.cell 0); have y1 := (show _ = some (Value.int .i64 po.els) from K6.out.cell 1)
    go_wp2_with fail
    refine (iPolicyWrite_any po _ w6 HP6.out (HPW.out.below HB6.out)).mono ?_; rintro e w7 ⟨rfl, b7⟩
    rw [show polOut po = polText po by unfold polOut; rw [if_pos HOK.out]]
    have HB7 := Lib.hid (below_then HB6.out b7)
    have S37 := Lib.hid (S36.out.below b7)
    have HMX7 := Lib.hid (show ∃ m : Int, w7.cell? ⟨0, 0, none⟩ = some (.int .i64 m) by obtain ⟨m, hm⟩ := HMX.out; exact ⟨m, (HB7.out.cell (p := ⟨0, 0, none⟩) h0w).trans hm⟩)
    clear b7 y0 y1 S36 S46
    go_wp2_with fail
    refine (PolicyRead_yes po w7 HOK.out HMX7.out).mono ?_; rintro e w8 ⟨pv, rfl, hp8, b8⟩
    have hp8' := hp8
    obtain ⟨rv, css, rfl, ⟨A8, n8, c8, rfl, -⟩, -⟩ := hp8'
    obtain ⟨w9, hw9⟩ : ∃ W, W = w8.alloc (.cells #[.slice A8 n8 c8, .int .i64 po.els] 25) := ⟨_, rfl⟩
    have b9 : Below w8.heap.size w8 w9 := by rw [hw9]; go_grown
    have HB9 := Lib.hid (below_then HB7.out (below_then b8 b9))
    have HP9 := Lib.hid (hp8.below b9)
    have S39 := Lib.hid (S37.out.below (below_then b8 b9))
    have HW9 := Lib.hid hw9
    clear hp8 b8 b9 hw9
    go_wp2_with fail
    rw [← HW9.out]
    refine (iMakeCode_any po _ w9 HP9.out (HPW.out.below HB9.out)).mono ?_; rintro e w10 ⟨v10, x', ok', b10, rfl, hx', hb10, ho10, hbl10⟩
    obtain ⟨rfl, rfl⟩ := HX.out.one hx'
    have HB10 := Lib.hid (below_then HB9.out hbl10)
    have S310 := Lib.hid (S39.out.below hbl10); have S10 := Lib.hid (SlA.of_own ho10 (insR_len x) (insR_rows x))
    clear hx' hb10 ho10 hbl10
    go_wp2_with fail
    refine (wgCode_any v3 v10 x x w10 S310.out S10.out).mono ?_; rintro e w11 ⟨rfl, b11⟩
    rw [codeEq_same]
    have HEND := Lib.hid (below_then HB10.out b11)
    clear b11
    go_wp2
    go_ret
    exact ⟨rfl, HEND.out⟩
end Go.Proofs.YtgdelnpielfhkaaGreatDoor
