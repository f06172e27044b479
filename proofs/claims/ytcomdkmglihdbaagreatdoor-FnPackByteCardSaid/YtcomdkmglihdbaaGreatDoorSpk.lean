/- spec.PackGood and spec.PackMake of any pack and any text. -/
import Derived.Test.YtcomdkmglihdbaaGreatDoorSrdA
import Derived.Test.YtcomdkmglihdbaaGreatDoorCodeS3
import Derived.Test.YtcomdkmglihdbaaGreatDoorChkSA
import Derived.Test.YtcomdkmglihdbaaGreatDoorMakeSp
import Derived.Test.YtcomdkmglihdbaaGreatDoorCodeSA
namespace Go.Proofs.YtcomdkmglihdbaaGreatDoor
open Go.RowKit
set_option linter.unusedSimpArgs false
set_option linter.unusedVariables false

abbrev TPackS : TypeId := 24
theorem PolOwn.slice {w : World} {B : Nat} {p : Pol} {v : Value} (h : PolOwn w B p v) : ∃ A n c, v = .agg #[.slice A n c, .int .i64 p.els] := by
  obtain ⟨rv, css, rfl, ho, _⟩ := h
  rcases ho.2 with ⟨rfl, _⟩ | ⟨g', cap, cur, rfl, _⟩
  · exact ⟨_, _, _, rfl⟩
  · exact ⟨_, _, _, rfl⟩
theorem own_slice {w : World} {B n size : Nat} {e : TypeId} {v : Value} {xs : List Value} (ho : w.ownsRow B e size v n xs) : ∃ A c, v = .slice A n c := by
  rcases ho.2 with ⟨rfl, h⟩ | ⟨g', cap, cur, rfl, _⟩
  · exact ⟨none, 0, by rw [h]⟩
  · exact ⟨_, _, rfl⟩
/-- What CodeRead hands back, in short. -/
theorem codePost_short {text : List UInt8} {e : TypeId} {w w' : World} {en : Ending} (h : CodePost text e w en w') : ∃ (g : List In4) (v : Value) (ok : Bool), en = .returned (.tuple #[v, .bool ok]) ∧ (ok = true → codeOk g ∧ text = codeText g) ∧ (ok = false → ¬ ∃ g, codeOk g ∧ text = codeText g) ∧ w'.ownsRow w.heap.size e 4 v g.length (insR g).flatten ∧ Below w.heap.size w w' := by
  rcases h with ⟨g, v, h1, h2, rfl, ho, hb⟩ | ⟨hn, v, rfl, ho, hb⟩
  · exact ⟨g, v, true, rfl, fun _ => ⟨h1, h2⟩, (fun h => by cases h), ho, hb⟩
  · exact ⟨[], v, false, rfl, (fun h => by cases h), fun _ => hn, ho, hb⟩

set_option maxRecDepth 100000 in
set_option maxHeartbeats 4000000 in
theorem sPackGood_any (en : Int) (r c : List UInt8) (w : World) (hr : r.length ≤ 1048576) (hc : c.length ≤ 1048576) :
    Calls Tryz.prog 69 #[.agg #[.int .i64 en, .string ⟨r.toArray⟩, .string ⟨c.toArray⟩]] w fun e w' => ∃ b : Bool, e = .returned (.bool b) ∧ Below w.heap.size w w' := by
  obtain ⟨W1, hW1⟩ : ∃ W, W = w.alloc (.cells #[.int .i64 en, .string ⟨r.toArray⟩, .string ⟨c.toArray⟩] TPackS) := ⟨_, rfl⟩
  have b1 : Hid (Below w.heap.size w W1) := by rw [hW1]; exact Lib.hid (by go_grown)
  have B1 : Hid (Blk W1 w.heap.size TPackS #[.int .i64 en, .string ⟨r.toArray⟩, .string ⟨c.toArray⟩]) := by rw [hW1]; exact Lib.hid (Blk.new _ _ _)
  have HW1 := Lib.hid hW1
  clear hW1
  have x1 := (show _ = some (Value.string ⟨r.toArray⟩) from B1.out.cell 1)
  go_enter Tryz.func69, Tryz.ntmps69
  go_upto_region 1 with (fail)
  rw [← HW1.out]
  go_wp2_with fail
  refine (sPolicyRead_any r W1 hr).mono ?_; rintro e1 w2 ⟨p, v, at_, rfl, hat, ho, hb2⟩
  obtain ⟨A, n, cc, rfl⟩ := ho.slice
  obtain ⟨W2, hW2⟩ : ∃ W, W = w2.alloc (.cells #[.slice A n cc, .int .i64 p.els] TPolS) := ⟨_, rfl⟩
  have b2 : Below w2.heap.size w2 W2 := by rw [hW2]; go_grown
  have B2 : Hid (Blk W2 w2.heap.size TPolS #[.slice A n cc, .int .i64 p.els]) := by rw [hW2]; exact Lib.hid (Blk.new _ _ _)
  have HP := Lib.hid (ho.is.below b2)
  have HB := Lib.hid (below_then b1.out (below_then hb2 b2))
  have HB1 := Lib.hid ((B1.out.below hb2 B1.out.lt).below b2 (Nat.lt_of_lt_of_le B1.out.lt hb2.size))
  have HW2 := Lib.hid hW2
  clear hW2 ho b2 hb2 x1 hat
  have x2 := (show _ = some (Value.string ⟨c.toArray⟩) from HB1.out.cell 2)
  go_upto_region 2 with (fail)
  rw [← HW2.out]
  go_wp2_with fail
  refine (sCodeRead_any ⟨c.toArray⟩ W2 (by show c.toArray.size ≤ _; simpa using hc)).mono ?_; intro e3 w3 h3
  obtain ⟨g, v3, ok, rfl, -, -, ho3, hb3⟩ := codePost_short h3
  obtain ⟨A3, c3, rfl⟩ := own_slice ho3
  have HP3 := Lib.hid (HP.out.below hb3)
  have HS3 := Lib.hid (show Sl w3 4 (.slice A3 g.length c3) (insR g) from SlA.of_own ho3 (insR_len g) (insR_rows g))
  have HBL := Lib.hid (below_then HB.out hb3)
  have B3 := Lib.hid (B2.out.below hb3 B2.out.lt)
  have HB3 := Lib.hid (HB1.out.below hb3 HB1.out.lt)
  clear h3 ho3 hb3 x2 HP HB HB1
  have x0 := (show _ = some (Value.int .i64 en) from HB3.out.cell 0)
  have y0 := (show _ = some (Value.slice A n cc) from B3.out.cell 0); have y1 := (show _ = some (Value.int .i64 p.els) from B3.out.cell 1)
  go_wp2_with fail
  refine (l1In_any en 1 99 w3).mono ?_; rintro e w4 ⟨rfl, rfl⟩
  cases hin : inB en 1 99 with
  | false =>
    go_wp2
    go_ret
    exact ⟨false, rfl, HBL.out⟩
  | true =>
    cases haz : (at_ == 0) with
    | false =>
      go_wp2
      go_ret
      exact ⟨false, rfl, HBL.out⟩
    | true =>
      cases ok with
      | false =>
        go_wp2
        go_ret
        exact ⟨false, rfl, HBL.out⟩
      | true =>
        go_wp2_with fail
        refine (sCheckCode_any _ g p _ w3 HS3.out HP3.out).mono ?_; rintro e w5 ⟨s, b, rfl, -, hb5⟩
        have HB5 := Lib.hid (below_then HBL.out hb5)
        clear hb5
        go_wp2
        go_ret
        exact ⟨b, rfl, HB5.out⟩
/-- What PackMake hands back. -/
def MkPk (en : Int) (r : List UInt8) (w : World) (e : Ending) (w' : World) : Prop := ∃ (en' : Int) (r' c' : List UInt8) (ok : Bool), e = .returned (.tuple #[.agg #[.int .i64 en', .string ⟨r'.toArray⟩, .string ⟨c'.toArray⟩], .bool ok]) ∧ (en' = en ∨ en' = 0) ∧ (r' = r ∨ r' = []) ∧ c'.length ≤ 2600 ∧ Below w.heap.size w w'
theorem set3_below {w w' : World} {a b c : Value} (h : Below w.heap.size w w') : Below w.heap.size w (((w'.setCell ⟨w.heap.size, 0, none⟩ a).setCell ⟨w.heap.size, 1, none⟩ b).setCell ⟨w.heap.size, 2, none⟩ c) :=
  ((h.setCell (p := ⟨w.heap.size, 0, none⟩) (Nat.le_refl _) _).setCell (p := ⟨w.heap.size, 1, none⟩) (Nat.le_refl _) _).setCell (p := ⟨w.heap.size, 2, none⟩) (Nat.le_refl _) _
theorem mk_zero {en : Int} {r : List UInt8} {w w' : World} (h : Below w.heap.size w w') : MkPk en r w (.returned (.tuple #[.agg #[.int .i64 0, .string ⟨#[]⟩, .string ⟨#[]⟩], .bool false])) (((w'.setCell ⟨w.heap.size, 0, none⟩ (.int .i64 0)).setCell ⟨w.heap.size, 1, none⟩ (.string ⟨#[]⟩)).setCell ⟨w.heap.size, 2, none⟩ (.string ⟨#[]⟩)) :=
  ⟨0, [], [], false, rfl, .inr rfl, .inr rfl, by simp, set3_below h⟩
theorem mk_yes {en : Int} {r c : List UInt8} {w w' : World} (hc : c.length ≤ 2600) (h : Below w.heap.size w w') : MkPk en r w (.returned (.tuple #[.agg #[.int .i64 en, .string ⟨r.toArray⟩, .string ⟨c.toArray⟩], .bool true])) (((w'.setCell ⟨w.heap.size, 0, none⟩ (.int .i64 en)).setCell ⟨w.heap.size, 1, none⟩ (.string ⟨r.toArray⟩)).setCell ⟨w.heap.size, 2, none⟩ (.string ⟨c.toArray⟩)) :=
  ⟨en, r, c, true, rfl, .inl rfl, .inl rfl, hc, set3_below h⟩
theorem codeOut_lenS (x : List In4) : (codeOut x).length ≤ 2600 := by
  by_cases h : codeOk x
  · rw [h.out]; exact h.2
  · rw [codeOk.no h]; simp
set_option maxRecDepth 100000 in
set_option maxHeartbeats 4000000 in
theorem sPackMake_any (en : Int) (r : List UInt8) (w : World) (hr : r.length ≤ 1048576) :
    Calls Tryz.prog 47 #[.int .i64 en, .string ⟨r.toArray⟩] w (MkPk en r w) := by
  obtain ⟨W1, hW1⟩ : ∃ W, W = w.alloc (.cells #[.int .i64 0, .string ⟨#[]⟩, .string ⟨#[]⟩] TPackS) := ⟨_, rfl⟩
  have b1 : Hid (Below w.heap.size w W1) := by rw [hW1]; exact Lib.hid (by go_grown)
  have B1 : Hid (Blk W1 w.heap.size TPackS #[.int .i64 0, .string ⟨#[]⟩, .string ⟨#[]⟩]) := by rw [hW1]; exact Lib.hid (Blk.new _ _ _)
  have HW1 := Lib.hid hW1
  clear hW1
  go_enter Tryz.func47, Tryz.ntmps47
  go_upto_region 1 with (fail)
  rw [← HW1.out]
  go_wp2_with fail
  refine (sPolicyRead_any r W1 hr).mono ?_; rintro e1 w2 ⟨p, v, at_, rfl, -, ho, hb2⟩
  obtain ⟨A, n, cc, rfl⟩ := ho.slice
  obtain ⟨W2, hW2⟩ : ∃ W, W = w2.alloc (.cells #[.slice A n cc, .int .i64 p.els] TPolS) := ⟨_, rfl⟩
  have b2 : Below w2.heap.size w2 W2 := by rw [hW2]; go_grown
  have B2 : Hid (Blk W2 w2.heap.size TPolS #[.slice A n cc, .int .i64 p.els]) := by rw [hW2]; exact Lib.hid (Blk.new _ _ _)
  have HP := Lib.hid (ho.is.below b2)
  have HB := Lib.hid (below_then b1.out (below_then hb2 b2))
  have HB1 := Lib.hid ((B1.out.below hb2 B1.out.lt).below b2 (Nat.lt_of_lt_of_le B1.out.lt hb2.size))
  have HW2 := Lib.hid hW2
  clear hW2 ho b2 hb2
  go_upto_region 2 with (fail)
  rw [← HW2.out]
  go_wp2_with fail
  refine (l1In_any en 1 99 W2).mono ?_; rintro e w4 ⟨rfl, rfl⟩
  cases hin : inB en 1 99 with
  | false =>
    have r0 := (show _ = some (Value.int .i64 0) from HB1.out.cell 0); have r1 := (show _ = some (Value.string ⟨#[]⟩) from HB1.out.cell 1); have r2 := (show _ = some (Value.string ⟨#[]⟩) from HB1.out.cell 2)
    have rf0 := HB1.out.frozen 0; have rf1 := HB1.out.frozen 1; have rf2 := HB1.out.frozen 2
    go_wp2
    exact bodyPost_ret (v := .tuple #[.agg #[.int .i64 0, .string ⟨#[]⟩, .string ⟨#[]⟩], .bool false]) (by simp [results, Tryz.results47, go_sem, r0, r1, r2]) rfl (mk_zero HB.out)
  | true =>
    cases haz : (at_ == 0) with
    | false =>
      have r0 := (show _ = some (Value.int .i64 0) from HB1.out.cell 0); have r1 := (show _ = some (Value.string ⟨#[]⟩) from HB1.out.cell 1); have r2 := (show _ = some (Value.string ⟨#[]⟩) from HB1.out.cell 2)
      have rf0 := HB1.out.frozen 0; have rf1 := HB1.out.frozen 1; have rf2 := HB1.out.frozen 2
      go_wp2
      exact bodyPost_ret (v := .tuple #[.agg #[.int .i64 0, .string ⟨#[]⟩, .string ⟨#[]⟩], .bool false]) (by simp [results, Tryz.results47, go_sem, r0, r1, r2]) rfl (mk_zero HB.out)
    | true =>
      have y0 := (show _ = some (Value.slice A n cc) from B2.out.cell 0); have y1 := (show _ = some (Value.int .i64 p.els) from B2.out.cell 1)
      go_wp2_with fail
      refine (sMakeCode_any p _ W2 HP.out).mono ?_; rintro e w5 ⟨v5, x, ok, rfl, -, ho5, hb5⟩
      obtain ⟨A5, c5, rfl⟩ := own_slice ho5
      have HS5 := Lib.hid (show Sl w5 4 (.slice A5 x.length c5) (insR x) from SlA.of_own ho5 (insR_len x) (insR_rows x))
      have HBL := Lib.hid (below_then HB.out hb5)
      have HR5 := Lib.hid (HB1.out.below hb5 HB1.out.lt)
      clear ho5 hb5 y0 y1
      go_upto_region 5 with (fail)
      go_wp2_with fail
      refine (sCodeWrite_any _ x w5 HS5.out).mono ?_; rintro e w6 ⟨rfl, hb6⟩
      obtain ⟨co, hco⟩ : ∃ co, co = codeOut x := ⟨_, rfl⟩
      have HCO := Lib.hid (show co.length ≤ 2600 by rw [hco]; exact codeOut_lenS x)
      rw [← hco]
      obtain ⟨W7, hW7⟩ : ∃ W, W = w6.alloc (.cells #[.int .i64 en, .string ⟨r.toArray⟩, .string ⟨co.toArray⟩] TPackS) := ⟨_, rfl⟩
      have b7 : Below w6.heap.size w6 W7 := by rw [hW7]; go_grown
      have B7 : Hid (Blk W7 w6.heap.size TPackS #[.int .i64 en, .string ⟨r.toArray⟩, .string ⟨co.toArray⟩]) := by rw [hW7]; exact Lib.hid (Blk.new _ _ _)
      have HB7 := Lib.hid (below_then HBL.out (below_then hb6 b7))
      have HR7 := Lib.hid (HR5.out.below (below_then hb6 b7) HR5.out.lt)
      have HW7 := Lib.hid hW7
      clear hW7 b7 hb6 hco
      go_upto_region 6 with (fail)
      rw [← HW7.out]
      cases ok with
      | false =>
        have r0 := (show _ = some (Value.int .i64 0) from HR7.out.cell 0); have r1 := (show _ = some (Value.string ⟨#[]⟩) from HR7.out.cell 1); have r2 := (show _ = some (Value.string ⟨#[]⟩) from HR7.out.cell 2)
        have rf0 := HR7.out.frozen 0; have rf1 := HR7.out.frozen 1; have rf2 := HR7.out.frozen 2
        go_wp2
        exact bodyPost_ret (v := .tuple #[.agg #[.int .i64 0, .string ⟨#[]⟩, .string ⟨#[]⟩], .bool false]) (by simp [results, Tryz.results47, go_sem, r0, r1, r2]) rfl (mk_zero HB7.out)
      | true =>
        have y0 := (show _ = some (Value.int .i64 en) from B7.out.cell 0); have y1 := (show _ = some (Value.string ⟨r.toArray⟩) from B7.out.cell 1); have y2 := (show _ = some (Value.string ⟨co.toArray⟩) from B7.out.cell 2)
        go_wp2_with fail
        refine (sPackGood_any en r co W7 hr (by have := HCO.out; omega)).mono ?_; rintro e w8 ⟨b, rfl, hb8⟩
        have HB8 := Lib.hid (below_then HB7.out hb8)
        have HR8 := Lib.hid (HR7.out.below hb8 HR7.out.lt)
        have B8 := Lib.hid (B7.out.below hb8 B7.out.lt)
        clear y0 y1 y2 hb8
        cases b with
        | false =>
          have r0 := (show _ = some (Value.int .i64 0) from HR8.out.cell 0); have r1 := (show _ = some (Value.string ⟨#[]⟩) from HR8.out.cell 1); have r2 := (show _ = some (Value.string ⟨#[]⟩) from HR8.out.cell 2)
          have rf0 := HR8.out.frozen 0; have rf1 := HR8.out.frozen 1; have rf2 := HR8.out.frozen 2
          go_wp2
          exact bodyPost_ret (v := .tuple #[.agg #[.int .i64 0, .string ⟨#[]⟩, .string ⟨#[]⟩], .bool false]) (by simp [results, Tryz.results47, go_sem, r0, r1, r2]) rfl (mk_zero HB8.out)
        | true =>
          have y0 := (show _ = some (Value.int .i64 en) from B8.out.cell 0); have y1 := (show _ = some (Value.string ⟨r.toArray⟩) from B8.out.cell 1); have y2 := (show _ = some (Value.string ⟨co.toArray⟩) from B8.out.cell 2)
          have r0 := (show _ = some (Value.int .i64 0) from HR8.out.cell 0); have r1 := (show _ = some (Value.string ⟨#[]⟩) from HR8.out.cell 1); have r2 := (show _ = some (Value.string ⟨#[]⟩) from HR8.out.cell 2)
          have rf0 := HR8.out.frozen 0; have rf1 := HR8.out.frozen 1; have rf2 := HR8.out.frozen 2
          go_wp2
          exact bodyPost_ret (v := .tuple #[.agg #[.int .i64 en, .string ⟨r.toArray⟩, .string ⟨co.toArray⟩], .bool true]) (by simp [results, Tryz.results47, go_sem, r0, r1, r2]) rfl (mk_yes HCO.out HB8.out)
end Go.Proofs.YtcomdkmglihdbaaGreatDoor
