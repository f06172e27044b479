/- spec's graphs of policies, exactly: l4Used, l4Trim, GraphMake. -/
import Derived.Test.YtdjgicapbpoigaaGreatDoorGmX
import Derived.Test.YtdjgicapbpoigaaGreatDoorMak
import Derived.Test.YtdjgicapbpoigaaGreatDoorPolSA
import Derived.Deep.RegionHeld3
namespace Go.Proofs.YtdjgicapbpoigaaGreatDoor
open Go.RowKit
set_option linter.unusedSimpArgs false
set_option linter.unusedVariables false

set_option maxHeartbeats 4000000 in
theorem gUsed_any (A : Option Addr) (n c : Nat) (g : List Pt) (at_ : Nat) (w : World) (hA : SlA w 7 A n c (g.map Pt.cells)) (hAh : Good g) (hat : at_ < n) (hn : n ≤ 1000) :
   Calls Tryz.prog 107 #[.slice A n c, .int .i64 at_] w fun e w' => e = .returned (.slice (some ⟨w.heap.size, 0, none⟩) n n) ∧ Blk w' w.heap.size 4 (bRow (usedOf g at_)) ∧ Below w.heap.size w w' := by
 have hl : g.length = n := by have := hA.len; simpa using this
 have hc := hA.cap
 have hm := hA.max
 unfold maxLen at hm
 have hmk := fun W => run_make_row' (P := Tryz.prog) 200 4 (.bool false) 1 Tryz.underlying200 info_boolR rfl .i64 .i64 n (by omega) (by omega) W
 have B0 : Blk (w.alloc (.cells (madeCells #[.bool false] n) 4)) w.heap.size 4 (bRow (List.replicate n false)) := by rw [bRow_zero]; exact Blk.new _ _ _
 have d0 := bRow_cell (k := at_) (b := false) B0 (by simp [List.getElem?_replicate, hat])
 have f0 := B0.frozen at_
 have h0n : (at_ : Int) < n := by omega
 have HL := Lib.hid hl; have HG := Lib.hid hAh; have HA := Lib.hid hA; clear hl hAh B0 hA
 go_enter Tryz.func107, Tryz.ntmps107
 go_wp2
 go_loopw [6] (fun i wr => ∃ (k : Nat) (z : Int) (us : List Bool), k ≤ at_ + 1 ∧ z + 1 = k ∧ i = .int .i64 z ∧ us.length = n ∧ Hid (useDown g k us = usedOf g at_) ∧ Blk wr w.heap.size 4 (bRow us) ∧ Below w.heap.size w wr) (fun i _ => (intOf i + 1).toNat)
 case atStart =>
   refine ⟨at_ + 1, at_, (List.replicate n false).set at_ true, by omega, by omega, rfl, by simp, Lib.hid (by unfold usedOf; rw [HL.out]), ?_, by go_grown⟩
   rw [← bRow_set, ← bRow_zero]; exact Blk.new _ _ _
 case round =>
   obtain ⟨k, z, us, hk, hz, rfl, hrl, HR, hbk, hbw⟩ := hrel
   have hsz := hbw.size
   have hblt := hbk.lt
   by_cases hge : 0 ≤ z
   · obtain ⟨m, rfl⟩ : ∃ m : Nat, z = m := ⟨z.toNat, by omega⟩
     obtain rfl : k = m + 1 := by omega
     have hmn : m < n := by omega
     have hmni : (m : Int) < n := by omega
     obtain ⟨b, off, p, rfl, hab, hgp, hcell⟩ := pts_get HA.out hmn
     obtain ⟨c0, c1, c2, c3, c4, c5, c6⟩ := hcell wr _ hbw hab
     obtain ⟨rb, hrb⟩ := bRow_some hrl hmn
     have dk := bRow_cell hbk hrb
     have hbne : ¬ b = w.heap.size := by omega
     have HRB := Lib.hid hrb; have HP := Lib.hid hgp; clear hrb hgp
     cases rb with
     | false =>
       clear hcell c0 c1 c2 c3 c4 c5 c6
       go_wp2
       exact ⟨⟨m, (m : Int) - 1, us, by omega, by omega, by go_num, hrl, Lib.hid (by have := HR.out; rwa [useDown, useAt_skip HP.out (.inl HRB.out)] at this), hbk, hbw⟩, by simp [intOf]⟩
     | true =>
       by_cases hop : 0 < p.op
       · obtain ⟨y, nn, hy, hnn, hyk, hnk⟩ := HG.out.ahead m p HP.out hop
         have HY := Lib.hid hy; have HN := Lib.hid hnn
         rw [hy] at c5
         rw [hnn] at c6
         clear hy hnn
         obtain ⟨by_, hby⟩ := bRow_some hrl (k := y) (by omega)
         have dy := bRow_cell hbk hby
         have fy := hbk.frozen y
         have BY := hbk.set_ y (.bool true)
         rw [bRow_set] at BY
         obtain ⟨bn, hbn⟩ := bRow_some (rs := us.set y true) (n := n) (by simp [hrl]) (k := nn) (by omega)
         have dn := bRow_cell BY hbn
         have fn := BY.frozen nn
         have hyi : (y : Int) < n := by omega
         have hni : (nn : Int) < n := by omega
         have HB := Lib.hid BY
         clear hcell c0 c1 c2 c4 hby hbn BY
         go_wp2
         exact ⟨⟨m, (m : Int) - 1, (us.set y true).set nn true, by omega, by omega, by go_num, by simp [hrl], Lib.hid (by have := HR.out; rwa [useDown, useAt_mark HP.out HRB.out (by omega) HY.out HN.out] at this), by have := HB.out.set_ nn (.bool true); rwa [bRow_set] at this, (hbw.setCell (by simp) _).setCell (by simp) _⟩, by simp [intOf]⟩
       · clear hcell c0 c1 c2 c4 c5 c6
         go_wp2
         exact ⟨⟨m, (m : Int) - 1, us, by omega, by omega, by go_num, hrl, Lib.hid (by have := HR.out; rwa [useDown, useAt_skip HP.out (.inr (by rcases HG.out m p HP.out with h | h <;> omega))] at this), hbk, hbw⟩, by simp [intOf]⟩
   · obtain rfl : k = 0 := by omega
     go_wp2
     go_ret
     exact ⟨rfl, by have h := HR.out; rw [useDown] at h; rw [← h]; exact hbk, hbw⟩

set_option maxHeartbeats 8000000 in
theorem gTrim_any : ∀ (B at_ : Nat) (A : Option Addr) (n c : Nat) (g : List Pt) (w : World) (hB : at_ < B) (hA : SlA w 7 A n c (g.map Pt.cells)) (hAh : Good g) (hat : at_ < n) (hn : n ≤ 1000),
   Calls Tryz.prog 71 #[.slice A n c, .int .i64 at_] w fun e w' => ∃ v' g', e = .returned v' ∧ Sl w' 7 v' (g'.map Pt.cells) ∧ TrimIs g at_ g' ∧ Good g' ∧ g'.length ≤ 1000 ∧ Below w.heap.size w w' := by
 intro B
 induction B with
 | zero => intro at_ A n c g w hB; exact absurd hB (by omega)
 | succ B IH =>
   intro at_ A n c g w hB hA hAh hat hn
   have hl : g.length = n := by have := hA.len; simpa using this
   have hc := hA.cap
   have hm := hA.max
   unfold maxLen at hm
   have HIH := Lib.hid IH; have HL := Lib.hid hl; have HG := Lib.hid hAh; have HA := Lib.hid hA; clear IH hl hAh hA
   go_enter Tryz.func71, Tryz.ntmps71
   go_wp2_with fail
   refine (gUsed_any A n c g at_ _ HA.out HG.out hat hn).mono ?_
   rintro e W1 ⟨rfl, hbu, hb1⟩
   obtain ⟨us, hU⟩ : ∃ us, us = usedOf g at_ := ⟨_, rfl⟩
   rw [← hU] at hbu
   have hus : us.length = n := by rw [hU, usedOf_len]; exact HL.out
   have hsz := hb1.size
   have hmk := fun W => run_make_row' (P := Tryz.prog) 160 3 (.int .i64 0) 8 Tryz.underlying160 info_intR rfl .i64 .i64 n (by omega) (by omega) W
   obtain ⟨W2, hW2⟩ : ∃ W2, W2 = ((W1.alloc (.cells #[] 151)).alloc (.cells (madeCells #[.int .i64 0] n) 3)) := ⟨_, rfl⟩
   have hb2 : Below w.heap.size w W2 := by rw [hW2]; go_grown
   have O0 : W2.ownsRow w.heap.size 151 7 (.slice (some ⟨W1.heap.size, 0, none⟩) 0 0) 0 [] := by
     rw [hW2]
     exact (World.ownsRow_lit (base := w.heap.size) (e := 151) (size := 7) W1 #[] 0 hsz (by unfold maxLen; omega) rfl).alloc _
   have BT : Blk W2 (W1.heap.size + 1) 3 (nRow (List.replicate n 0)) := by
     rw [hW2, ← nRow_zero]
     have := Blk.new (W1.alloc (.cells #[] 151)) 3 (madeCells #[.int .i64 0] n)
     simpa using this
   have BU : Blk W2 w.heap.size 4 (bRow us) := hbu.below (show Below W1.heap.size W1 W2 by rw [hW2]; go_grown) hbu.lt
   have HU := Lib.hid hU; have HW2 := Lib.hid hW2; have HO := Lib.hid O0; have HBT := Lib.hid BT; have HBU := Lib.hid BU; clear hU hW2 O0 hbu BT BU
   go_wp2
   rw [← HW2.out]
   go_loopw [6, 8] (fun o i wr => ∃ (k : Nat) (gs : List Pt) (ts : List Nat), k ≤ at_ + 1 ∧ i = .int .i64 k ∧ ts.length = n ∧ Hid (TrimTo g us k gs ts) ∧ Good gs ∧ gs.length ≤ k ∧ ToOk us ts k gs.length ∧ wr.ownsRow w.heap.size 151 7 o gs.length (gs.map Pt.cells).flatten ∧ Blk wr w.heap.size 4 (bRow us) ∧ Blk wr (W1.heap.size + 1) 3 (nRow ts) ∧ Below w.heap.size w wr) (fun _ i _ => at_ + 1 - (intOf i).toNat)
   case atStart => exact ⟨0, [], List.replicate n 0, by omega, rfl, by simp, Lib.hid ⟨rfl, by rw [HL.out]⟩, Good.nil, by simp, fun j h => absurd h (by omega), HO.out, HBU.out, HBT.out, hb2⟩
   case round =>
     obtain ⟨k, gs, ts, hk, rfl, htl, HTT, hAg, hgl, hto, ho, hbu, hbt, hbw⟩ := hrel
     clear HO HBU HBT hmk
     have hwz := hbw.size
     have HTO := Lib.hid hto; have HO := Lib.hid ho; have HAG := Lib.hid hAg; clear hto ho hAg
     by_cases hle : k ≤ at_
     · have hlei : (k : Int) ≤ at_ := by omega
       have hkn : k < n := by omega
       have hkni : (k : Int) < n := by omega
       obtain ⟨b, off, p, rfl, hab, hgp, hcell⟩ := pts_get HA.out hkn
       obtain ⟨c0, c1, c2, c3, c4, c5, c6⟩ := hcell wr _ hbw hab
       obtain ⟨rb, hrb⟩ := bRow_some hus hkn
       have dk := bRow_cell hbu hrb
       have HRB := Lib.hid hrb; have HP := Lib.hid hgp; clear hrb hgp hcell
       cases rb with
       | false =>
         clear c0 c1 c2 c3 c4 c5 c6
         go_wp2
         exact ⟨⟨k + 1, gs, ts, by omega, by go_num, htl, Lib.hid ⟨gs, ts, HTT.out, .inl ⟨by rw [HRB.out]; simp, rfl, rfl⟩⟩, HAG.out, by omega, HTO.out.skip HRB.out, HO.out, hbu, hbt, hbw⟩, by simp [intOf]; omega⟩
       | true =>
         obtain ⟨XB, hXB⟩ : ∃ X, X = Obj.cells #[.int .i64 p.verdict, .int .i64 p.field, .int .i64 p.mask, .int .i64 p.op, .int .i64 p.value, .int .i64 p.yes, .int .i64 p.no] 151 := ⟨_, rfl⟩
         have hbx : Below wr.heap.size wr (wr.alloc XB) := by rw [hXB]; go_grown
         have O1 := own_below HO.out hbx
         have BU1 := hbu.below hbx hbu.lt
         have BT1 := hbt.below hbx hbt.lt
         have F1 : Below w.heap.size w (wr.alloc XB) := below_then hbw hbx
         have hz1 : w.heap.size ≤ (wr.alloc XB).heap.size := by simp; omega
         rw [hXB] at O1 BU1 BT1 F1 hz1
         have HO1 := Lib.hid O1; have HBU1 := Lib.hid BU1; have HF1 := Lib.hid F1; clear O1 BU1 F1 hXB hbx
         by_cases hop : 0 < p.op
         · obtain ⟨y, nn, hy, hnn, hyk, hnk, uy, un⟩ := usedOf_next HG.out hle (by rw [← HU.out]; exact HRB.out) HP.out (by omega)
           rw [← HU.out] at uy un
           obtain ⟨ty, hty, hty2⟩ := HTO.out y hyk uy
           obtain ⟨tn, htn, htn2⟩ := HTO.out nn hnk un
           have e0 := nRow_cell BT1 hty
           have e1 := nRow_cell BT1 htn
           have hyi : (y : Int) < n := by omega
           have hni : (nn : Int) < n := by omega
           have HTY := Lib.hid hty; have HTN := Lib.hid htn
           clear uy un hty htn
           obtain ⟨pv, pf, pm, po, pl, py, pn⟩ := p
           simp only at hy hnn hop c0 c1 c2 c3 c4 c5 c6 dk BT1 e0 e1
           subst hy hnn
           obtain ⟨tk, htk⟩ := nRow_some htl hkn
           have HTK := Lib.hid htk; have HBT1 := Lib.hid BT1; have HN5 := Lib.hid (show gs.length ≤ 100000 by omega); have HZ1 := Lib.hid hz1
           have XB := Blk.new wr 151 #[.int .i64 pv, .int .i64 pf, .int .i64 pm, .int .i64 po, .int .i64 pl, .int .i64 y, .int .i64 nn]
           have hne : u6.ownBlock ≠ some wr.heap.size := fun e => by have := (HO.out.lt _ e).2; omega
           have HXB := Lib.hid XB; have HNE := Lib.hid hne
           have x1 := (show _ = some (Value.int .i64 pf) from XB.cell 1); have x2 := (show _ = some (Value.int .i64 pm) from XB.cell 2); have x3 := (show _ = some (Value.int .i64 po) from XB.cell 3); have x4 := (show _ = some (Value.int .i64 pl) from XB.cell 4); have x5 := (show _ = some (Value.int .i64 (y : Int)) from XB.cell 5); have x6 := (show _ = some (Value.int .i64 (nn : Int)) from XB.cell 6)
           have HQ := Lib.hid (show wr.heap.size ≠ (⟨W1.heap.size + 1, k, none⟩ : Addr).block from fun e => by have := hbt.lt; simp only at e; omega)
           have HT5 := Lib.hid (show ∀ a : Nat, (ts.set k a)[y]? = some ty from fun a => by rw [List.getElem?_set_ne (by omega)]; exact HTY.out)
           have HT6 := Lib.hid (show ∀ a : Nat, (ts.set k a)[nn]? = some tn from fun a => by rw [List.getElem?_set_ne (by omega)]; exact HTN.out)
           clear htk BT1 XB hne
           go_wp2
           go_region_held3 (fun w' => w'.cell? ⟨wr.heap.size, 1, none⟩ = some (.int .i64 pf) ∧ w'.cell? ⟨wr.heap.size, 2, none⟩ = some (.int .i64 pm) ∧ w'.cell? ⟨wr.heap.size, 3, none⟩ = some (.int .i64 po) ∧ w'.cell? ⟨wr.heap.size, 4, none⟩ = some (.int .i64 pl) ∧ w'.cell? ⟨wr.heap.size, 5, none⟩ = some (.int .i64 y) ∧ w'.cell? ⟨wr.heap.size, 6, none⟩ = some (.int .i64 nn) ∧ w'.cell? ⟨W1.heap.size + 1, y, none⟩ = some (.int .i64 ty) ∧ w'.cell? ⟨W1.heap.size + 1, nn, none⟩ = some (.int .i64 tn))
             (first | exact ⟨x1, x2, x3, x4, x5, x6, e0, e1⟩ | exact ⟨X3.cell 1, X3.cell 2, X3.cell 3, X3.cell 4, X3.cell 5, X3.cell 6, t3, t4⟩ | exact ⟨Y3.cell 1, Y3.cell 2, Y3.cell 3, Y3.cell 4, Y3.cell 5, Y3.cell 6, t5, t6⟩ | go_keep)
             (first | (go_at_call 108; refine (l4Look_all w.heap.size u6 gs pf pm po pl ty tn _ (by exact HO1.out) (by exact HZ1.out) HN5.out).mono ?_; rintro e W3 ⟨u3, g3, a3, rfl, hL, ho3, hf3, hr3⟩; have BT3 := hf3.blk HBT1.out (by decide); have d3 := nRow_cell BT3 HTK.out; have f3 := BT3.frozen k; have X3 := hr3.blk HXB.out HNE.out; have t3 := nRow_cell BT3 HTY.out; have t4 := nRow_cell BT3 HTN.out; have Y3 := X3.far (p := ⟨W1.heap.size + 1, k, none⟩) HQ.out (.int .i64 (a3 : Int)); have B4 := BT3.set_ k (.int .i64 (a3 : Int)); rw [nRow_set] at B4; have t5 := nRow_cell B4 (HT5.out a3); have t6 := nRow_cell B4 (HT6.out a3)))
           go_wp2
           obtain ⟨-, q2, q3, q4⟩ := HAG.out.ahead.look hL hty2 htn2
           have q1 := HAG.out.look hL hop hty2 htn2
           have HST := Lib.hid (show TrimTo g us (k + 1) g3 (ts.set k a3) from ⟨gs, ts, HTT.out, .inr ⟨HRB.out, _, a3, HP.out, rfl, .inr ⟨by simp only; omega, by
             have ey : ts.getD (y : Int).toNat 0 = ty := by rw [Int.toNat_natCast, List.getD_eq_getElem?_getD, HTY.out]; rfl
             have en : ts.getD (nn : Int).toNat 0 = tn := by rw [Int.toNat_natCast, List.getD_eq_getElem?_getD, HTN.out]; rfl
             simp only
             rw [ey, en]
             exact hL⟩⟩⟩)
           have hN3 : u3.ownBlock ≠ some (W1.heap.size + 1) := own_ne_int ho3 BT3 (by decide)
           exact ⟨⟨k + 1, g3, ts.set k a3, by omega, by go_num, by simp [htl], HST, q1, by omega, HTO.out.put (by omega) q3 q2, ownsRow_setCell_other ho3 hN3 _, (hf3.blk HBU1.out (by decide)).far (by simp; omega) _, B4, (HF1.out.drew.trans hf3.below).setCell (by simp; omega) _⟩, by simp [intOf]; omega⟩
         · obtain ⟨tk, htk⟩ := nRow_some htl hkn
           have HTK := Lib.hid htk; have HBT1 := Lib.hid BT1; have HN5 := Lib.hid (show gs.length ≤ 100000 by omega); have HZ1 := Lib.hid hz1
           clear htk BT1
           go_wp2_with fail
           refine (l4Point_any w.heap.size u6 gs p _ (by exact HO1.out) (by exact HZ1.out) HN5.out).mono ?_
           rintro e W3 ⟨u3, g3, a3, rfl, hL, ho3, hf3⟩
           have BT3 := hf3.blk HBT1.out (by decide)
           have d3 := nRow_cell BT3 HTK.out
           have f3 := BT3.frozen k
           obtain ⟨-, q2, q3, q4⟩ := HAG.out.ahead.put hL (fun h => absurd h (by omega))
           have hop0 : p.op = 0 := by rcases HG.out k p HP.out with h | h <;> omega
           have q1 := HAG.out.put hL (.inl hop0)
           have HST := Lib.hid (show TrimTo g us (k + 1) g3 (ts.set k a3) from ⟨gs, ts, HTT.out, .inr ⟨HRB.out, _, a3, HP.out, rfl, .inl ⟨hop0, hL⟩⟩⟩)
           have B4 := BT3.set_ k (.int .i64 (a3 : Int))
           rw [nRow_set] at B4
           have hN3 : u3.ownBlock ≠ some (W1.heap.size + 1) := own_ne_int ho3 BT3 (by decide)
           have HO3 := Lib.hid (ownsRow_setCell_other (a := ⟨W1.heap.size + 1, k, none⟩) ho3 hN3 (.int .i64 (a3 : Int))); have HB4 := Lib.hid B4; have HQ1 := Lib.hid q1; clear ho3 B4 q1 hL
           go_wp2
           exact ⟨⟨k + 1, g3, ts.set k a3, by omega, by go_num, by simp [htl], HST, HQ1.out, by omega, HTO.out.put (by omega) q3 q2, HO3.out, (hf3.blk HBU1.out (by decide)).far (by simp; omega) _, HB4.out, (HF1.out.trans hf3.below).setCell (by simp; omega) _⟩, by simp [intOf]; omega⟩
     · obtain rfl : k = at_ + 1 := by omega
       obtain ⟨t, ht, htlt⟩ := HTO.out at_ (by omega) (by rw [HU.out]; exact usedOf_at HG.out (by rw [HL.out]; exact hat))
       have HTE := Lib.hid ht
       have HTF := Lib.hid (show TrimTo g (usedOf g at_) (at_ + 1) gs ts by rw [← HU.out]; exact HTT.out)
       have dt := nRow_cell hbt ht
       have hani : (at_ : Int) < n := by omega
       obtain ⟨A', n', c', rfl, hA'⟩ := SlA.of_own HO.out (by simp) (Pt.rows gs)
       have hgn : gs.length = n' := by have := hA'.len; simpa using this
       have hc' := hA'.cap
       have hm' := hA'.max
       unfold maxLen at hm'
       have HA' := Lib.hid hA'; have HGN := Lib.hid hgn; clear hA' ht
       by_cases hlast : t + 1 = n'
       · have hd : ((t : Int) == (n' : Int) - 1) = true := by simp; omega
         go_wp2
         go_ret
         exact ⟨_, gs, rfl, ⟨_, _, _, rfl, HA'.out⟩, .done HTF.out HTE.out (by rw [HGN.out]; omega), HAG.out, by omega, by go_grown⟩
       · have hd : ((t : Int) == (n' : Int) - 1) = false := by simp; omega
         go_wp2_with fail
         refine (HIH.out t A' n' c' gs _ (by omega) (by exact HA'.out) HAG.out (by omega) (by omega)).mono ?_
         rintro e W3 ⟨v3, g3, rfl, hs3, htr3, ha3, hl3, hb3⟩
         have HTR := Lib.hid (TrimIs.more HTF.out HTE.out (by rw [HGN.out]; omega) htr3)
         have HS3 := Lib.hid hs3; have HA3 := Lib.hid ha3; clear hs3 ha3 htr3
         go_wp2
         go_ret
         exact ⟨v3, g3, rfl, HS3.out, HTR.out, HA3.out, hl3, by first | exact below_then hbw hb3 | go_grown⟩

theorem Sl.empty0 (w : World) (size : Nat) (t : TypeId) : Sl (w.alloc (.cells #[] t)) size (.slice (some ⟨w.heap.size, 0, none⟩) 0 0) [] := by
 have h : (w.alloc (.cells #[] t)).ownsRow 0 t size (.slice (some ⟨w.heap.size, 0, none⟩) 0 0) ([] : List (List Value)).length ([] : List (List Value)).flatten := World.ownsRow_lit (base := 0) (e := t) (size := size) w #[] 0 (Nat.zero_le _) (by unfold maxLen; omega) (by simp)
 obtain ⟨A, n, c, e, hA⟩ := SlA.of_own h rfl (fun r hr => by cases hr)
 exact ⟨A, n, c, e, hA⟩

set_option maxHeartbeats 4000000 in
theorem sGraphMake_any (p : Pol) (v : Value) (w : World) (hP : PolIs w p v) :
   Calls Tryz.prog 38 #[v] w fun e w' => ∃ v' g', e = .returned v' ∧ Sl w' 7 v' (g'.map Pt.cells) ∧ GraphIs p g' ∧ Good g' ∧ g'.length ≤ 1000 ∧ Below w.heap.size w w' := by
 have HP := Lib.hid hP
 obtain ⟨rv, css, rfl, ⟨A, n, c, rfl, hSA⟩, hR⟩ := hP
 have hb0 : Below w.heap.size w (w.alloc (.cells #[.slice A n c, .int .i64 p.els] 35)) := by go_grown
 have B0 := Blk.new w 35 #[.slice A n c, .int .i64 p.els]
 clear hSA hR
 cases hok : polOkB p with
 | false =>
   have HOK := Lib.hid hok; clear hok
   go_enter Tryz.func38, Tryz.ntmps38
   go_wp2_with fail
   refine (PolicyOk_any p _ _ (HP.out.below hb0)).mono ?_; rintro e w1 ⟨rfl, hb1⟩
   rw [HOK.out]
   go_wp2
   go_ret
   exact ⟨_, [], rfl, Sl.empty0 w1 7 _, .inl ⟨HOK.out, rfl⟩, Good.nil, by simp, by have := below_then hb0 hb1; exact this.alloc this.size _⟩
 | true =>
   have HOK := Lib.hid hok; clear hok
   go_enter Tryz.func38, Tryz.ntmps38
   go_wp2_with fail
   refine (PolicyOk_any p _ _ (HP.out.below hb0)).mono ?_; rintro e w1 ⟨rfl, hb1⟩
   rw [HOK.out]
   have B1 := B0.below hb1 B0.lt
   have c0 := (show _ = some (Value.slice A n c) from B1.cell 0); have c1 := (show _ = some (Value.int .i64 p.els) from B1.cell 1)
   have hb01 := below_then hb0 hb1
   clear B0 hb1
   go_wp2_with fail
   refine (gMake_any p _ _ (HP.out.below hb01) (polOkB_shape HOK.out).1).mono ?_; rintro e w2 ⟨v2, g2, i2, rfl, hru, hA2, hi2, hl2, ho2, hf2⟩
   have HRU := Lib.hid hru
   obtain ⟨A2, n2, c2, rfl, hS2⟩ := SlA.of_own ho2 (by simp) (Pt.rows g2)
   have hn2 : g2.length = n2 := by have := hS2.len; simpa using this
   subst hn2
   have hb2 := below_then hb01 hf2.below
   have HA2 := Lib.hid hA2; have HS2 := Lib.hid hS2; clear hA2 hS2 ho2 hf2 B1 hb01
   go_wp2_with fail
   refine (gTrim_any (i2 + 1) i2 A2 g2.length c2 g2 _ (by omega) HS2.out HA2.out hi2 (by omega)).mono ?_; rintro e w3 ⟨v3, g3, rfl, hs3, htr3, ha3, hl3, hb3⟩
   have HTR := Lib.hid (show GraphIs p g3 from .inr ⟨HOK.out, g2, i2, HRU.out, htr3⟩)
   have HS3 := Lib.hid hs3; have HA3 := Lib.hid ha3; clear hs3 ha3 htr3 hru
   go_wp2
   go_ret
   exact ⟨v3, g3, rfl, HS3.out, HTR.out, HA3.out, hl3, below_then hb2 hb3⟩
end Go.Proofs.YtdjgicapbpoigaaGreatDoor
