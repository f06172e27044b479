/- Joined texts: GoodM GoodN LawPackMake. -/
import Derived.Test.YtdjgicapbpoigaaGreatDoorGoodSA
import Derived.Test.YtdjgicapbpoigaaGreatDoorMakeB
import Derived.Test.YtdjgicapbpoigaaGreatDoorGoodIB
-- spec.PackMake, exactly.
namespace Go.Proofs.YtdjgicapbpoigaaGreatDoor
open Go.RowKit
set_option linter.unusedSimpArgs false
set_option linter.unusedVariables false

theorem GoodIs.yes {en : Int} {r c : List UInt8} (h : GoodIs en r c true) : inB en 1 99 = true := by
 rcases h with ⟨h, _⟩ | ⟨h, _⟩
 · cases h
 · exact h
def MkCan (en : Int) (r : List UInt8) : Prop := ∃ (p : Pol) (x : List In4), polOkB p = true ∧ polText p = r ∧ CodeOfP p x true ∧ GoodIs en r (codeOut x) true
def MkIs (en : Int) (r : List UInt8) (en' : Int) (r' c' : List UInt8) (ok : Bool) : Prop := (ok = true ∧ en' = en ∧ r' = r ∧ ∃ (p : Pol) (x : List In4), polOkB p = true ∧ polText p = r ∧ CodeOfP p x true ∧ c' = codeOut x ∧ GoodIs en r c' true) ∨ (ok = false ∧ en' = 0 ∧ r' = [] ∧ c' = [] ∧ ¬ MkCan en r)
theorem MkIs.one {en : Int} {r : List UInt8} {a a' : Int} {b b' c c' : List UInt8} {ok ok' : Bool} (h : MkIs en r a b c ok) (h' : MkIs en r a' b' c' ok') : a = a' ∧ b = b' ∧ c = c' ∧ ok = ok' := by
 rcases h with ⟨rfl, rfl, rfl, p, x, hp, ht, hx, rfl, hg⟩ | ⟨rfl, rfl, rfl, rfl, hn⟩
 · rcases h' with ⟨rfl, rfl, rfl, p', x', hp', ht', hx', rfl, hg'⟩ | ⟨rfl, rfl, rfl, rfl, hn⟩
   · obtain rfl := pol_inj hp hp' (ht.trans ht'.symm)
     exact ⟨rfl, rfl, by rw [(hx.one hx').1], rfl⟩
   · exact absurd ⟨p, x, hp, ht, hx, hg⟩ hn
 · rcases h' with ⟨rfl, rfl, rfl, p', x', hp', ht', hx', rfl, hg'⟩ | ⟨rfl, rfl, rfl, rfl, _⟩
   · exact absurd ⟨p', x', hp', ht', hx', hg'⟩ hn
   · exact ⟨rfl, rfl, rfl, rfl⟩
theorem no_epoch {en : Int} {r : List UInt8} (h : inB en 1 99 = false) : ¬ MkCan en r := by
 rintro ⟨p, x, _, _, _, hg⟩
 rw [hg.yes] at h
 cases h
theorem no_text {en : Int} {r : List UInt8} (h : ¬ isPol r) : ¬ MkCan en r := by
 rintro ⟨p, x, hp, ht, _, _⟩
 exact h ⟨p, hp, ht⟩
theorem no_code {en : Int} {r : List UInt8} {p : Pol} {x : List In4} (h : polOkB p = true ∧ polText p = r) (hx : CodeOfP p x false) : ¬ MkCan en r := by
 rintro ⟨p', x', hp', ht', hx', _⟩
 obtain rfl := pol_inj h.1 hp' (h.2.trans ht'.symm)
 cases (hx.one hx').2
theorem no_good {en : Int} {r : List UInt8} {p : Pol} {x : List In4} (h : polOkB p = true ∧ polText p = r) (hx : CodeOfP p x true) (hg : GoodIs en r (codeOut x) false) : ¬ MkCan en r := by
 rintro ⟨p', x', hp', ht', hx', hg'⟩
 obtain rfl := pol_inj h.1 hp' (h.2.trans ht'.symm)
 rw [← (hx.one hx').1] at hg'
 cases hg.one hg'
def MkPkX (en : Int) (r : List UInt8) (w : World) (e : Ending) (w' : World) : Prop := ∃ (en' : Int) (r' c' : List UInt8) (ok : Bool), e = .returned (.tuple #[.agg #[.int .i64 en', .string ⟨r'.toArray⟩, .string ⟨c'.toArray⟩], .bool ok]) ∧ MkIs en r en' r' c' ok ∧ Below w.heap.size w w'
theorem mk_zeroX {en : Int} {r : List UInt8} {w w' : World} (h : Below w.heap.size w w') (hn : ¬ MkCan en r) : MkPkX en r w (.returned (.tuple #[.agg #[.int .i64 0, .string ⟨#[]⟩, .string ⟨#[]⟩], .bool false])) (((w'.setCell ⟨w.heap.size, 0, none⟩ (.int .i64 0)).setCell ⟨w.heap.size, 1, none⟩ (.string ⟨#[]⟩)).setCell ⟨w.heap.size, 2, none⟩ (.string ⟨#[]⟩)) :=
 ⟨0, [], [], false, rfl, .inr ⟨rfl, rfl, rfl, rfl, hn⟩, set3_below h⟩
theorem mk_yesX {en : Int} {r c : List UInt8} {w w' : World} {p : Pol} {x : List In4} (hp : polOkB p = true ∧ polText p = r) (hx : CodeOfP p x true) (hc : c = codeOut x) (hg : GoodIs en r c true) (h : Below w.heap.size w w') : MkPkX en r w (.returned (.tuple #[.agg #[.int .i64 en, .string ⟨r.toArray⟩, .string ⟨c.toArray⟩], .bool true])) (((w'.setCell ⟨w.heap.size, 0, none⟩ (.int .i64 en)).setCell ⟨w.heap.size, 1, none⟩ (.string ⟨r.toArray⟩)).setCell ⟨w.heap.size, 2, none⟩ (.string ⟨c.toArray⟩)) :=
 ⟨en, r, c, true, rfl, .inl ⟨rfl, rfl, rfl, p, x, hp.1, hp.2, hx, hc, hg⟩, set3_below h⟩
set_option maxRecDepth 100000 in
set_option maxHeartbeats 4000000 in
theorem sPackMake_all (en : Int) (r : List UInt8) (w : World) (hr : r.length ≤ 1048576) :
   Calls Tryz.prog 9 #[.int .i64 en, .string ⟨r.toArray⟩] w (MkPkX en r w) := by
 obtain ⟨W1, hW1⟩ : ∃ W, W = w.alloc (.cells #[.int .i64 0, .string ⟨#[]⟩, .string ⟨#[]⟩] TPackS) := ⟨_, rfl⟩
 have b1 : Hid (Below w.heap.size w W1) := by rw [hW1]; exact Lib.hid (by go_grown)
 have B1 : Hid (Blk W1 w.heap.size TPackS #[.int .i64 0, .string ⟨#[]⟩, .string ⟨#[]⟩]) := by rw [hW1]; exact Lib.hid (Blk.new _ _ _)
 have HW1 := Lib.hid hW1
 clear hW1
 go_enter Tryz.func9, Tryz.ntmps9
 go_upto_region 1 with (fail)
 rw [← HW1.out]
 go_wp2_with fail
 refine (sPolicyRead_all r W1 hr).mono ?_; rintro e1 w2 ⟨p, v, at_, rfl, hat, hnat, ho, hb2⟩
 have HAT := Lib.hid hat; have HNAT := Lib.hid hnat
 obtain ⟨A, n, cc, rfl⟩ := ho.slice
 obtain ⟨W2, hW2⟩ : ∃ W, W = w2.alloc (.cells #[.slice A n cc, .int .i64 p.els] TPolS) := ⟨_, rfl⟩
 have b2 : Below w2.heap.size w2 W2 := by rw [hW2]; go_grown
 have B2 : Hid (Blk W2 w2.heap.size TPolS #[.slice A n cc, .int .i64 p.els]) := by rw [hW2]; exact Lib.hid (Blk.new _ _ _)
 have HP := Lib.hid (ho.is.below b2)
 have HB := Lib.hid (below_then b1.out (below_then hb2 b2))
 have HB1 := Lib.hid ((B1.out.below hb2 B1.out.lt).below b2 (Nat.lt_of_lt_of_le B1.out.lt hb2.size))
 have HW2 := Lib.hid hW2
 clear hW2 ho b2 hb2 hat hnat
 go_upto_region 2 with (fail)
 rw [← HW2.out]
 go_wp2_with fail
 refine (l1In_any en 1 99 W2).mono ?_; rintro e w4 ⟨rfl, rfl⟩
 cases hin : inB en 1 99 with
 | false =>
   have r0 := (show _ = some (Value.int .i64 0) from HB1.out.cell 0); have r1 := (show _ = some (Value.string ⟨#[]⟩) from HB1.out.cell 1); have r2 := (show _ = some (Value.string ⟨#[]⟩) from HB1.out.cell 2)
   have rf0 := HB1.out.frozen 0; have rf1 := HB1.out.frozen 1; have rf2 := HB1.out.frozen 2
   go_wp2
   exact bodyPost_ret (v := .tuple #[.agg #[.int .i64 0, .string ⟨#[]⟩, .string ⟨#[]⟩], .bool false]) (by simp [results, Tryz.results9, go_sem, r0, r1, r2]) rfl (mk_zeroX HB.out (no_epoch hin))
 | true =>
   cases haz : (at_ == 0) with
   | false =>
     have r0 := (show _ = some (Value.int .i64 0) from HB1.out.cell 0); have r1 := (show _ = some (Value.string ⟨#[]⟩) from HB1.out.cell 1); have r2 := (show _ = some (Value.string ⟨#[]⟩) from HB1.out.cell 2)
     have rf0 := HB1.out.frozen 0; have rf1 := HB1.out.frozen 1; have rf2 := HB1.out.frozen 2
     go_wp2
     exact bodyPost_ret (v := .tuple #[.agg #[.int .i64 0, .string ⟨#[]⟩, .string ⟨#[]⟩], .bool false]) (by simp [results, Tryz.results9, go_sem, r0, r1, r2]) rfl (mk_zeroX HB.out (no_text (HNAT.out (by simpa using haz))))
   | true =>
     have y0 := (show _ = some (Value.slice A n cc) from B2.out.cell 0); have y1 := (show _ = some (Value.int .i64 p.els) from B2.out.cell 1)
     go_wp2_with fail
     refine (gMakeCode_any p _ W2 HP.out).mono ?_; rintro e w5 ⟨v5, x, ok, b5, rfl, hof, -, ho5, hb5⟩
     have HOF := Lib.hid hof; have HPO := Lib.hid (HAT.out (by simpa using haz))
     obtain ⟨A5, c5, rfl⟩ := own_slice ho5
     have HS5 := Lib.hid (show Sl w5 4 (.slice A5 x.length c5) (insR x) from SlA.of_own ho5 (insR_len x) (insR_rows x))
     have HBL := Lib.hid (below_then HB.out hb5)
     have HR5 := Lib.hid (HB1.out.below hb5 HB1.out.lt)
     clear ho5 hb5 y0 y1 hof
     go_upto_region 5 with (fail)
     go_wp2_with fail
     refine (sCodeWrite_any _ x w5 HS5.out).mono ?_; rintro e w6 ⟨rfl, hb6⟩
     obtain ⟨co, hco⟩ : ∃ co, co = codeOut x := ⟨_, rfl⟩
     have HCO := Lib.hid (show co.length ≤ 2600 by rw [hco]; exact codeOut_lenS x)
     have HCX := Lib.hid hco
     rw [← hco]
     obtain ⟨W7, hW7⟩ : ∃ W, W = w6.alloc (.cells #[.int .i64 en, .string ⟨r.toArray⟩, .string ⟨co.toArray⟩] TPackS) := ⟨_, rfl⟩
     have b7 : Below w6.heap.size w6 W7 := by rw [hW7]; go_grown
     have B7 : Hid (Blk W7 w6.heap.size TPackS #[.int .i64 en, .string ⟨r.toArray⟩, .string ⟨co.toArray⟩]) := by rw [hW7]; exact Lib.hid (Blk.new _ _ _)
     have HB7 := Lib.hid (below_then HBL.out (below_then hb6 b7))
     have HR7 := Lib.hid (HR5.out.below (below_then hb6 b7) HR5.out.lt)
     have HW7 := Lib.hid hW7
     clear hW7 b7 hb6 hco
     go_upto_region 6 with (fail)
     rw [← HW7.out]
     cases ok with
     | false =>
       have r0 := (show _ = some (Value.int .i64 0) from HR7.out.cell 0); have r1 := (show _ = some (Value.string ⟨#[]⟩) from HR7.out.cell 1); have r2 := (show _ = some (Value.string ⟨#[]⟩) from HR7.out.cell 2)
       have rf0 := HR7.out.frozen 0; have rf1 := HR7.out.frozen 1; have rf2 := HR7.out.frozen 2
       go_wp2
       exact bodyPost_ret (v := .tuple #[.agg #[.int .i64 0, .string ⟨#[]⟩, .string ⟨#[]⟩], .bool false]) (by simp [results, Tryz.results9, go_sem, r0, r1, r2]) rfl (mk_zeroX HB7.out (no_code HPO.out HOF.out))
     | true =>
       have y0 := (show _ = some (Value.int .i64 en) from B7.out.cell 0); have y1 := (show _ = some (Value.string ⟨r.toArray⟩) from B7.out.cell 1); have y2 := (show _ = some (Value.string ⟨co.toArray⟩) from B7.out.cell 2)
       go_wp2_with fail
       refine (sPackGood_all en r co W7 hr (by have := HCO.out; omega)).mono ?_; rintro e w8 ⟨b, rfl, hgd, hb8⟩
       have HGD := Lib.hid hgd
       have HB8 := Lib.hid (below_then HB7.out hb8)
       have HR8 := Lib.hid (HR7.out.below hb8 HR7.out.lt)
       have B8 := Lib.hid (B7.out.below hb8 B7.out.lt)
       clear y0 y1 y2 hb8 hgd
       cases b with
       | false =>
         have r0 := (show _ = some (Value.int .i64 0) from HR8.out.cell 0); have r1 := (show _ = some (Value.string ⟨#[]⟩) from HR8.out.cell 1); have r2 := (show _ = some (Value.string ⟨#[]⟩) from HR8.out.cell 2)
         have rf0 := HR8.out.frozen 0; have rf1 := HR8.out.frozen 1; have rf2 := HR8.out.frozen 2
         go_wp2
         exact bodyPost_ret (v := .tuple #[.agg #[.int .i64 0, .string ⟨#[]⟩, .string ⟨#[]⟩], .bool false]) (by simp [results, Tryz.results9, go_sem, r0, r1, r2]) rfl (mk_zeroX HB8.out (no_good HPO.out HOF.out (by rw [← HCX.out]; exact HGD.out)))
       | true =>
         have y0 := (show _ = some (Value.int .i64 en) from B8.out.cell 0); have y1 := (show _ = some (Value.string ⟨r.toArray⟩) from B8.out.cell 1); have y2 := (show _ = some (Value.string ⟨co.toArray⟩) from B8.out.cell 2)
         have r0 := (show _ = some (Value.int .i64 0) from HR8.out.cell 0); have r1 := (show _ = some (Value.string ⟨#[]⟩) from HR8.out.cell 1); have r2 := (show _ = some (Value.string ⟨#[]⟩) from HR8.out.cell 2)
         have rf0 := HR8.out.frozen 0; have rf1 := HR8.out.frozen 1; have rf2 := HR8.out.frozen 2
         go_wp2
         exact bodyPost_ret (v := .tuple #[.agg #[.int .i64 en, .string ⟨r.toArray⟩, .string ⟨co.toArray⟩], .bool true]) (by simp [results, Tryz.results9, go_sem, r0, r1, r2]) rfl (mk_yesX HPO.out HOF.out HCX.out HGD.out HB8.out)
end Go.Proofs.YtdjgicapbpoigaaGreatDoor

-- impl.PackMake, exactly.
namespace Go.Proofs.YtdjgicapbpoigaaGreatDoor
open Go.RowKit
set_option linter.unusedSimpArgs false
set_option linter.unusedVariables false

set_option maxRecDepth 100000 in
set_option maxHeartbeats 4000000 in
theorem iPackMake_all (en : Int) (r : List UInt8) (w : World) (hr : r.length ≤ 1048576) (hm : MaxIs w) (hpw : Pow w) (het : EtIs w) :
   Calls Tryz.prog 10 #[.int .i64 en, .string ⟨r.toArray⟩] w (MkPkX en r w) := by
 obtain ⟨W1, hW1⟩ : ∃ W, W = w.alloc (.cells #[.int .i64 0, .string ⟨#[]⟩, .string ⟨#[]⟩] TPackS) := ⟨_, rfl⟩
 have b1 : Hid (Below w.heap.size w W1) := by rw [hW1]; exact Lib.hid (by go_grown)
 have B1 : Hid (Blk W1 w.heap.size TPackS #[.int .i64 0, .string ⟨#[]⟩, .string ⟨#[]⟩]) := by rw [hW1]; exact Lib.hid (Blk.new _ _ _)
 have HM1 := Lib.hid (hm.below b1.out); have HPW1 := Lib.hid (hpw.below b1.out); have HET1 := Lib.hid (het.below b1.out)
 have HW1 := Lib.hid hW1
 clear hW1 hm hpw het
 go_enter Tryz.func10, Tryz.ntmps10
 go_upto_region 1 with (fail)
 rw [← HW1.out]
 go_wp2_with fail
 refine (iPolicyRead_all r W1 hr HM1.out).mono ?_; rintro e1 w2 ⟨p, A, n, cc, els, at_, rfl, hat, hnat, hb2⟩
 have HAT := Lib.hid hat; have HNAT := Lib.hid hnat
 obtain ⟨W2, hW2⟩ : ∃ W, W = w2.alloc (.cells #[.slice A n cc, .int .i64 els] TPolC) := ⟨_, rfl⟩
 have b2 : Below w2.heap.size w2 W2 := by rw [hW2]; go_grown
 have B2 : Hid (Blk W2 w2.heap.size TPolC #[.slice A n cc, .int .i64 els]) := by rw [hW2]; exact Lib.hid (Blk.new _ _ _)
 have HP := Lib.hid (show at_ = 0 → PolIs W2 p (.agg #[.slice A n cc, .int .i64 els]) from fun h => (hat h).2.2.below b2)
 have b12 := below_then hb2 b2
 have HB := Lib.hid (below_then b1.out b12)
 have HB1 := Lib.hid (B1.out.below b12 B1.out.lt)
 have HM2 := Lib.hid (HM1.out.below b12); have HPW2 := Lib.hid (HPW1.out.below b12); have HET2 := Lib.hid (HET1.out.below b12)
 have HW2 := Lib.hid hW2
 clear hW2 b2 hb2 b12 hat hnat
 go_upto_region 2 with (fail)
 rw [← HW2.out]
 by_cases ha : at_ = 0
 case neg =>
   have had : (at_ != 0) = true := by simpa using ha
   have r0 := (show _ = some (Value.int .i64 0) from HB1.out.cell 0); have r1 := (show _ = some (Value.string ⟨#[]⟩) from HB1.out.cell 1); have r2 := (show _ = some (Value.string ⟨#[]⟩) from HB1.out.cell 2)
   have rf0 := HB1.out.frozen 0; have rf1 := HB1.out.frozen 1; have rf2 := HB1.out.frozen 2
   go_wp2
   exact bodyPost_ret (v := .tuple #[.agg #[.int .i64 0, .string ⟨#[]⟩, .string ⟨#[]⟩], .bool false]) (by simp [results, Tryz.results10, go_sem, r0, r1, r2]) rfl (mk_zeroX HB.out (no_text (HNAT.out ha)))
 have had : (at_ != 0) = false := by simpa using ha
 have HPO := Lib.hid (show polOkB p = true ∧ polText p = r from ⟨(HAT.out ha).1, (HAT.out ha).2.1⟩)
 have HP2 := Lib.hid (HP.out ha)
 have y0 := (show _ = some (Value.slice A n cc) from B2.out.cell 0); have y1 := (show _ = some (Value.int .i64 els) from B2.out.cell 1)
 go_wp2_with fail
 refine (iMakeCode_any p _ W2 HP2.out HPW2.out).mono ?_; rintro e w5 ⟨v5, x, ok, bb5, rfl, hof, -, ho5, hb5⟩
 have HOF := Lib.hid hof
 obtain ⟨A5, c5, rfl⟩ := own_slice ho5
 have HS5 := Lib.hid (show Sl w5 4 (.slice A5 x.length c5) (insR x) from SlA.of_own ho5 (insR_len x) (insR_rows x))
 have HBL := Lib.hid (below_then HB.out hb5)
 have HR5 := Lib.hid (HB1.out.below hb5 HB1.out.lt)
 have HM5 := Lib.hid (HM2.out.below hb5); have HPW5 := Lib.hid (HPW2.out.below hb5); have HET5 := Lib.hid (HET2.out.below hb5)
 clear ho5 hb5 y0 y1 hof had
 cases ok with
 | false =>
   have r0 := (show _ = some (Value.int .i64 0) from HR5.out.cell 0); have r1 := (show _ = some (Value.string ⟨#[]⟩) from HR5.out.cell 1); have r2 := (show _ = some (Value.string ⟨#[]⟩) from HR5.out.cell 2)
   have rf0 := HR5.out.frozen 0; have rf1 := HR5.out.frozen 1; have rf2 := HR5.out.frozen 2
   have hneg := Lib.hid (no_code (en := en) HPO.out HOF.out)
   go_wp2
   exact bodyPost_ret (v := .tuple #[.agg #[.int .i64 0, .string ⟨#[]⟩, .string ⟨#[]⟩], .bool false]) (by simp [results, Tryz.results10, go_sem, r0, r1, r2]) rfl (mk_zeroX HBL.out hneg.out)
 | true =>
   go_wp2_with fail
   refine (CodeWrite_any _ x w5 HS5.out HPW5.out).mono ?_; rintro e w6 ⟨rfl, hb6⟩
   obtain ⟨co, hco⟩ : ∃ co, co = codeOut x := ⟨_, rfl⟩
   have HCO := Lib.hid (show co.length ≤ 2600 by rw [hco]; exact codeOut_lenS x)
   have HCX := Lib.hid hco
   rw [← hco]
   obtain ⟨W7, hW7⟩ : ∃ W, W = w6.alloc (.cells #[.int .i64 en, .string ⟨r.toArray⟩, .string ⟨co.toArray⟩] TPackS) := ⟨_, rfl⟩
   have b7 : Below w6.heap.size w6 W7 := by rw [hW7]; go_grown
   have B7 : Hid (Blk W7 w6.heap.size TPackS #[.int .i64 en, .string ⟨r.toArray⟩, .string ⟨co.toArray⟩]) := by rw [hW7]; exact Lib.hid (Blk.new _ _ _)
   have b67 := below_then hb6 b7
   have HB7 := Lib.hid (below_then HBL.out b67)
   have HR7 := Lib.hid (HR5.out.below b67 HR5.out.lt)
   have HM7 := Lib.hid (HM5.out.below b67); have HPW7 := Lib.hid (HPW5.out.below b67); have HET7 := Lib.hid (HET5.out.below b67)
   have HW7 := Lib.hid hW7
   clear hW7 b7 hb6 hco b67
   go_upto_region 8 with (fail)
   rw [← HW7.out]
   have y0 := (show _ = some (Value.int .i64 en) from B7.out.cell 0); have y1 := (show _ = some (Value.string ⟨r.toArray⟩) from B7.out.cell 1); have y2 := (show _ = some (Value.string ⟨co.toArray⟩) from B7.out.cell 2)
   go_wp2_with fail
   refine (iPackGood_all en r co W7 hr (by have := HCO.out; omega) HM7.out HPW7.out HET7.out).mono ?_; rintro e w8 ⟨b, rfl, hgd, hb8⟩
   have HGD := Lib.hid hgd
   have HB8 := Lib.hid (below_then HB7.out hb8)
   have HR8 := Lib.hid (HR7.out.below hb8 HR7.out.lt)
   have B8 := Lib.hid (B7.out.below hb8 B7.out.lt)
   clear y0 y1 y2 hb8 hgd
   have r0 := (show _ = some (Value.int .i64 0) from HR8.out.cell 0); have r1 := (show _ = some (Value.string ⟨#[]⟩) from HR8.out.cell 1); have r2 := (show _ = some (Value.string ⟨#[]⟩) from HR8.out.cell 2)
   have rf0 := HR8.out.frozen 0; have rf1 := HR8.out.frozen 1; have rf2 := HR8.out.frozen 2
   cases b with
   | false =>
     have hneg := Lib.hid (no_good HPO.out HOF.out (by rw [← HCX.out]; exact HGD.out))
     go_wp2
     exact bodyPost_ret (v := .tuple #[.agg #[.int .i64 0, .string ⟨#[]⟩, .string ⟨#[]⟩], .bool false]) (by simp [results, Tryz.results10, go_sem, r0, r1, r2]) rfl (mk_zeroX HB8.out hneg.out)
   | true =>
     have hpos := Lib.hid (mk_yesX (w := w) (w' := w8) HPO.out HOF.out HCX.out HGD.out HB8.out)
     have y0 := (show _ = some (Value.int .i64 en) from B8.out.cell 0); have y1 := (show _ = some (Value.string ⟨r.toArray⟩) from B8.out.cell 1); have y2 := (show _ = some (Value.string ⟨co.toArray⟩) from B8.out.cell 2)
     go_wp2
     exact bodyPost_ret (v := .tuple #[.agg #[.int .i64 en, .string ⟨r.toArray⟩, .string ⟨co.toArray⟩], .bool true]) (by simp [results, Tryz.results10, go_sem, r0, r1, r2]) rfl hpos.out
end Go.Proofs.YtdjgicapbpoigaaGreatDoor

-- FnExactPackMake, walked: both sides make the same pack, or none.
namespace Go.Proofs.YtdjgicapbpoigaaGreatDoor
open Go.RowKit Go.WideShapes Go.ChangeShapes Go.ChangeAt
set_option linter.unusedSimpArgs false
set_option linter.unusedVariables false

namespace exactPackMake
theorem eqPack_sameM (e : Int) (r c : List UInt8) (w : World) :
   Calls Tryz.prog 11 #[.agg #[.int .i64 e, .string ⟨r.toArray⟩, .string ⟨c.toArray⟩], .agg #[.int .i64 e, .string ⟨r.toArray⟩, .string ⟨c.toArray⟩]] w fun e' w' => e' = .returned (.bool true) ∧ Below w.heap.size w w' := by
 have q0 : (e != e) = false := by simp
 have q1 : (r != r) = false := by simp
 have q2 : (c != c) = false := by simp
 go_enter Tryz.func11, Tryz.ntmps11
 go_wp2
 go_ret
 exact ⟨rfl, by go_grown⟩
set_option maxHeartbeats 2000000 in
theorem walk (en : Int) (r : List UInt8) (w : World) (h1 : r.length ≤ maxLen) (hm : MaxIs w) (hpw : Pow w) (het : EtIs w) :
   Calls Tryz.prog 4 #[.int .i64 en, .string ⟨r.toArray⟩] w fun e w' => e = .returned (.bool true) ∧ Below w.heap.size w w' := by
 unfold maxLen at h1
 have HM := Lib.hid hm; have HPW := Lib.hid hpw; have HET := Lib.hid het
 clear hm hpw het
 by_cases hr : r.length ≤ 1048576
 case neg =>
   have hri : ¬ ((r.length : Int) ≤ 1048576) := by omega
   go_enter Tryz.func4, Tryz.ntmps4
   go_wp2
   all_goals
     go_ret
     exact ⟨rfl, Below.refl _ _⟩
 have hri : ((r.length : Int) ≤ 1048576) := by omega
 have HR := Lib.hid hr
 clear hr
 go_enter Tryz.func4, Tryz.ntmps4
 go_wp2_with fail
 refine (sPackMake_all en r w HR.out).mono ?_; rintro e w1 ⟨en1, r1, c1, ok1, rfl, hk1, b1⟩
 have HK1 := Lib.hid hk1
 obtain ⟨W1, hW1⟩ : ∃ W, W = w1.alloc (.cells #[.int .i64 en1, .string ⟨r1.toArray⟩, .string ⟨c1.toArray⟩] TPackS) := ⟨_, rfl⟩
 have K1 := Lib.hid (show Blk W1 w1.heap.size TPackS #[.int .i64 en1, .string ⟨r1.toArray⟩, .string ⟨c1.toArray⟩] by rw [hW1]; exact Blk.new _ _ _)
 have B1 := Lib.hid (show Below w.heap.size w W1 by rw [hW1]; exact b1.alloc b1.size _)
 have HW1 := Lib.hid hW1
 clear hW1 b1 hk1
 go_upto_region 4 with (fail)
 rw [← HW1.out]
 clear HW1
 go_wp2_with fail
 refine (iPackMake_all en r W1 HR.out (HM.out.below B1.out) (HPW.out.below B1.out) (HET.out.below B1.out)).mono ?_; rintro e w2 ⟨en2, r2, c2, ok2, rfl, hk2, b2⟩
 obtain ⟨rfl, rfl, rfl, rfl⟩ := HK1.out.one hk2
 have B2 := Lib.hid (below_then B1.out b2); have K2 := Lib.hid (K1.out.below b2 K1.out.lt)
 obtain ⟨W2, hW2⟩ : ∃ W, W = w2.alloc (.cells #[.int .i64 en1, .string ⟨r1.toArray⟩, .string ⟨c1.toArray⟩] TPackS) := ⟨_, rfl⟩
 have K3 := Lib.hid (show Blk W2 w2.heap.size TPackS #[.int .i64 en1, .string ⟨r1.toArray⟩, .string ⟨c1.toArray⟩] by rw [hW2]; exact Blk.new _ _ _)
 have K4 := Lib.hid (show Blk W2 w1.heap.size TPackS #[.int .i64 en1, .string ⟨r1.toArray⟩, .string ⟨c1.toArray⟩] by rw [hW2]; exact K2.out.alloc _)
 have B3 := Lib.hid (show Below w.heap.size w W2 by rw [hW2]; exact B2.out.alloc B2.out.size _)
 have HW2 := Lib.hid hW2
 have hoo : (ok1 != ok1) = false := by simp
 clear hW2 b2 hk2 K1 K2 HK1 B1 B2
 go_upto_region 5 with (fail)
 rw [← HW2.out]
 clear HW2
 have y0 := (show _ = some (Value.int .i64 en1) from K4.out.cell 0); have y1 := (show _ = some (Value.string ⟨r1.toArray⟩) from K4.out.cell 1); have y2 := (show _ = some (Value.string ⟨c1.toArray⟩) from K4.out.cell 2)
 have z0 := (show _ = some (Value.int .i64 en1) from K3.out.cell 0); have z1 := (show _ = some (Value.string ⟨r1.toArray⟩) from K3.out.cell 1); have z2 := (show _ = some (Value.string ⟨c1.toArray⟩) from K3.out.cell 2)
 go_wp2_with fail
 refine (eqPack_sameM en1 r1 c1 W2).mono ?_; rintro e w3 ⟨rfl, b3⟩
 have B4 := Lib.hid (below_then B3.out b3)
 clear b3 y0 y1 y2 z0 z1 z2
 go_wp2
 go_ret
 exact ⟨rfl, B4.out⟩
end exactPackMake
end Go.Proofs.YtdjgicapbpoigaaGreatDoor
