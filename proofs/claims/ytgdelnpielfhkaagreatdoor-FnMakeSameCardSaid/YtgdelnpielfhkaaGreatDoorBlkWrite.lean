/- How impl lays the points of a graph: block.write puts a point's places behind a program. -/
import Derived.Test.YtgdelnpielfhkaaGreatDoorBlkA
import Derived.Test.YtgdelnpielfhkaaGreatDoorKit
import Derived.Test.YtgdelnpielfhkaaGreatDoorLay3
import Derived.Deep.RegionHeld3
import Derived.Deep.CutBlock
namespace Go.Proofs.YtgdelnpielfhkaaGreatDoor
open Go.RowKit
set_option linter.unusedSimpArgs false
set_option linter.unusedVariables false

theorem own_lt {w : World} {base n s : Nat} {e : TypeId} {v : Value} {xs : List Value} (h : w.ownsRow base e s v n xs) {k : Nat} (hk : w.heap.size ≤ k) : some k ≠ v.ownBlock := by
  intro e2
  have := (h.lt k e2.symm).2
  omega
theorem own_grown_below {w w' : World} {base n : Nat} {e : TypeId} {size : Nat} {v : Value} {xs : List Value} (h : w.ownsRow base e size v n xs) (hg : w.grownBy w' v.ownBlock) (hb : base ≤ w.heap.size) : Below base w w' :=
  (Below.refl base w).grown hg hb (fun k hk => (h.lt k hk).1)

set_option maxRecDepth 100000 in
set_option maxHeartbeats 16000000 in
theorem write_any (x k n base bs : Nat) (g : List Pt) (hs ss : List Nat) (ys ns : List Bool) (cv : Value) (XS : List In4) (w : World) (hB : Blks w base g hs ss ys ns) (hx : hs[k]? = some x) (hl : hs.length = n) (hgl : g.length = n) (hg : graphOk g) (hst : Starts g ys ns ss)
    (hlow : ∀ h ∈ hs, h < bs) (hbs : bs ≤ w.heap.size) (hown : w.ownsRow bs 40 4 cv XS.length (insR XS).flatten) (hXS : XS.length ≤ 1000) :
    Calls Tryz.prog 34 #[.pointer (some ⟨x, 0, none⟩), cv] w fun e w' => ∃ v', e = .returned v' ∧ w'.ownsRow bs 40 4 v' (XS ++ ptCode g ys ns k).length (insR (XS ++ ptCode g ys ns k)).flatten ∧ Below bs w w' := by
  have hn120 : n ≤ 120 := by rw [← hgl]; exact hg.1.2
  have hkn : k < n := by rw [← hl]; exact (List.getElem?_eq_some_iff.1 hx).1
  obtain ⟨p, hgp⟩ : ∃ p, g[k]? = some p := ⟨_, List.getElem?_eq_getElem (by omega)⟩
  obtain ⟨yv, hyv⟩ := bRow_some (rs := ys) (n := n) (by rw [hB.yl, hl]) hkn
  obtain ⟨nv, hnv⟩ := bRow_some (rs := ns) (n := n) (by rw [hB.nl, hl]) hkn
  have hbk := hB.ptr hx hgp (getD_ofB (hst k (by omega))) (getD_ofB hyv) (getD_ofB hnv)
  have hxb := hlow x (List.mem_of_getElem? hx)
  by_cases h0 : p.op = 0
  · have hp : ptCode g ys ns k = [⟨6, p.verdict, 0, 0⟩] := by unfold ptCode; rw [hgp]; simp only []; rw [if_pos h0]
    have HP := Lib.hid hp
    obtain ⟨c0, c1, c2, c3, c4, c5, c6, -⟩ := bk_cells hbk
    have hd : (p.op == 0) = true := by simp [h0]
    have O0 := hown.alloc (.cells #[.int .i64 p.verdict, .int .i64 p.field, .int .i64 p.mask, .int .i64 p.op, .int .i64 p.value, .int .i64 p.yes, .int .i64 p.no] 81)
    obtain ⟨W0, hW0⟩ : ∃ W, W = (w.alloc (.cells #[.int .i64 p.verdict, .int .i64 p.field, .int .i64 p.mask, .int .i64 p.op, .int .i64 p.value, .int .i64 p.yes, .int .i64 p.no] 81)) := ⟨_, rfl⟩
    rw [← hW0] at O0
    have hz0 : bs ≤ W0.heap.size := by rw [hW0]; simp; omega
    have hb0 : Below bs w W0 := by rw [hW0]; exact (Below.refl bs w).alloc hbs _
    have d0 : W0.cell? ⟨w.heap.size, 0, none⟩ = some (.int .i64 p.verdict) := by rw [hW0]; exact (Blk.new w _ _).cell 0
    have HW0 := Lib.hid hW0; have HO := Lib.hid O0
    clear hp h0 hB hst hg hgp hbk hx hown hyv hnv hW0 O0
    go_enter Tryz.func34, Tryz.ntmps34
    go_upto_region 3 with (fail)
    try rw [← HW0.out]
    go_wp2_with (at_builtin; go_must (refine wpList_app1 rfl (.tmp 16) (.tmp 20) _ rfl bs 40 Tryz.underlying27 info_Ins rfl (by omega) (by omega) cv XS.length (insR XS) rfl HO.out rfl (by simp [Value.oneCell']) rfl (by omega) hz0 ?_); intro v5 w5 hown5 hb5 _)
    have HO5 := Lib.hid hown5
    clear hown5
    go_wp2
    go_ret
    refine ⟨v5, rfl, ?_, ?_⟩
    · rw [HP.out]
      have := HO5.out
      simpa [insR, In4.cells] using this
    · exact hb0.trans hb5
  · obtain ⟨y, nn, hy, hnn, hyk, hnk⟩ := look_ways hg hgp h0
    obtain ⟨xy, hxy⟩ : ∃ x, hs[y]? = some x := ⟨_, List.getElem?_eq_getElem (by omega)⟩
    obtain ⟨xn, hxn⟩ : ∃ x, hs[nn]? = some x := ⟨_, List.getElem?_eq_getElem (by omega)⟩
    obtain ⟨py, hpy⟩ : ∃ p, g[y]? = some p := ⟨_, List.getElem?_eq_getElem (by omega)⟩
    obtain ⟨pn, hpn⟩ : ∃ p, g[nn]? = some p := ⟨_, List.getElem?_eq_getElem (by omega)⟩
    have BY := Lib.hid (hB.ptr hxy hpy (getD_ofB (hst y (by omega))) rfl rfl)
    have BN := Lib.hid (hB.ptr hxn hpn (getD_ofB (hst nn (by omega))) rfl rfl)
    have hyb := hlow xy (List.mem_of_getElem? hxy)
    have hnb := hlow xn (List.mem_of_getElem? hxn)
    rw [hy, hnn, wayV_look h0 hxy, wayV_look h0 hxn] at hbk
    have s1 : stAt g ys ns k ≤ 600 := Nat.le_trans (stAt_le g ys ns k) (by omega)
    have s2 : stAt g ys ns y ≤ 600 := Nat.le_trans (stAt_le g ys ns y) (by omega)
    have s3 : stAt g ys ns nn ≤ 600 := Nat.le_trans (stAt_le g ys ns nn) (by omega)
    have s4 := tstP_le p
    have hp : ptCode g ys ns k = [⟨1, p.field, 0, 0⟩] ++ (if p.mask = 4294967295 then [] else [⟨2, p.mask, 0, 0⟩]) ++
        [⟨if p.op = 3 then 4 else 3, p.value, if yv then 0 else (stAt g ys ns y : Int) - (stAt g ys ns k + tstP p), if nv then (yv.toNat : Int) else (stAt g ys ns nn : Int) - (stAt g ys ns k + tstP p)⟩] ++
        (if yv then [⟨5, (stAt g ys ns y : Int) - (stAt g ys ns k + tstP p) - 1, 0, 0⟩] else []) ++
        (if nv then [⟨5, (stAt g ys ns nn : Int) - (stAt g ys ns k + tstP p) - yv.toNat - 1, 0, 0⟩] else []) := by
      rw [← tstP_at hgp]
      unfold ptCode
      rw [hgp]
      simp only []
      rw [if_neg h0, hyv, hnv, hy, hnn]
      rfl
    obtain ⟨c0, c1, c2, c3, c4, c5, c6, -⟩ := bk_cells hbk
    have hd : (p.op == 0) = false := by simp [h0]
    have HP := Lib.hid hp; have HBK := Lib.hid hbk
    have HLA := Lib.hid (fun (W : World) (hW : Below bs w W) => lookAt_any x p (stAt g ys ns k) _ _ yv nv W (hbk.below hW hxb) (by omega))
    have P0 := Blk.new w 81 #[.int .i64 p.verdict, .int .i64 p.field, .int .i64 p.mask, .int .i64 p.op, .int .i64 p.value, .int .i64 p.yes, .int .i64 p.no]
    have hb0 : Below bs w (w.alloc (.cells #[.int .i64 p.verdict, .int .i64 p.field, .int .i64 p.mask, .int .i64 p.op, .int .i64 p.value, .int .i64 p.yes, .int .i64 p.no] 81)) := (Below.refl bs w).alloc hbs _
    have O0 := hown.alloc (.cells #[.int .i64 p.verdict, .int .i64 p.field, .int .i64 p.mask, .int .i64 p.op, .int .i64 p.value, .int .i64 p.yes, .int .i64 p.no] 81)
    obtain ⟨W0, hW0⟩ : ∃ W, W = (w.alloc (.cells #[.int .i64 p.verdict, .int .i64 p.field, .int .i64 p.mask, .int .i64 p.op, .int .i64 p.value, .int .i64 p.yes, .int .i64 p.no] 81)) := ⟨_, rfl⟩
    rw [← hW0] at O0 P0 hb0
    have hz0 : bs ≤ W0.heap.size := by rw [hW0]; simp; omega
    have d1 : W0.cell? ⟨w.heap.size, 1, none⟩ = some (.int .i64 p.field) := P0.cell 1
    have HW0 := Lib.hid hW0; have HP0 := Lib.hid P0; have HO0 := Lib.hid O0
    clear hp hB hst hg hgp hbk hx hown hyv hnv h0 P0 O0 hW0 hxy hxn hpy hpn hy hnn
    generalize tstP p = TK at *
    obtain ⟨pv, pf, pm, po, pl, pyy, pnn⟩ := p
    simp only at c0 c1 c2 c3 c4 c5 c6 hd d1
    generalize stAt g ys ns k = SK at *
    generalize stAt g ys ns y = SY at *
    generalize stAt g ys ns nn = SN at *
    go_enter Tryz.func34, Tryz.ntmps34
    go_upto_region 4 with (fail)
    try rw [← HW0.out]
    go_upto_region 5 with (at_builtin; go_must (refine wpList_app1g rfl (.tmp 22) (.tmp 26) _ rfl bs 40 Tryz.underlying27 info_Ins rfl (by omega) (by omega) cv XS.length (insR XS) rfl HO0.out rfl (by simp [Value.oneCell']) rfl (by omega) hz0 ?_); intro v2 V hown2 hg2 _)
    have HPV := Lib.hid (HP0.out.grown hg2 (own_far_type HO0.out HP0.out (by decide)))
    have hbV := hb0.trans (own_grown_below HO0.out hg2 hz0)
    obtain ⟨X1, hX1⟩ : ∃ l : List In4, l = XS ++ [⟨1, pf, 0, 0⟩] := ⟨_, rfl⟩
    have HOV := Lib.hid (show V.ownsRow bs 40 4 v2 X1.length (insR X1).flatten by rw [hX1]; exact own_eq hown2 (by simp) (by simp [insR, In4.cells]))
    have hL1 : X1.length ≤ 1001 := by rw [hX1]; simp; omega
    have HX1 := Lib.hid hX1
    clear hX1
    have hzV := Nat.le_trans hbs hbV.size
    have d2 := (show _ = some (Value.int .i64 pm) from HPV.out.cell 2)
    clear hown2 hg2 d1 HO0 HP0 hz0 hb0 HW0 c0 c1 c2 c3 c4 c5 c6
    rcases Decidable.em (pm = 4294967295) with hm4 | hm4
    case' inl =>
      have hdm : (pm != 4294967295) = false := by simp [hm4]
      obtain ⟨X2, hX2⟩ : ∃ l : List In4, l = X1 := ⟨_, rfl⟩
      have HX2 := Lib.hid (show XS ++ (([⟨1, pf, 0, 0⟩] : List In4) ++ if pm = 4294967295 then ([] : List In4) else [⟨2, pm, 0, 0⟩]) = X2 by rw [hX2, if_pos hm4, HX1.out]; simp)
      have hXl : X2.length ≤ 1002 := by rw [hX2]; omega
      rw [← hX2] at HOV
      clear hm4 hX2
      go_upto_region 7 with (fail)
    case' inr =>
      have hdm : (pm != 4294967295) = true := by simp [hm4]
      obtain ⟨X2, hX2⟩ : ∃ l : List In4, l = X1 ++ [⟨2, pm, 0, 0⟩] := ⟨_, rfl⟩
      have HX2 := Lib.hid (show XS ++ (([⟨1, pf, 0, 0⟩] : List In4) ++ if pm = 4294967295 then ([] : List In4) else [⟨2, pm, 0, 0⟩]) = X2 by rw [hX2, if_neg hm4, HX1.out]; simp)
      have hXl : X2.length ≤ 1002 := by rw [hX2]; simp; omega
      have HXE := Lib.hid hX2
      clear hm4 hX2
      go_upto_region 7 with (at_builtin; go_must (refine wpList_app1g rfl (.tmp 31) (.tmp 35) _ rfl bs 40 Tryz.underlying27 info_Ins rfl (by omega) (by omega) v2 X1.length (insR X1) rfl HOV.out rfl (by simp [Value.oneCell']) rfl (by omega) hzV ?_); intro v2 V hown2 hg2 _)
      have hbV := hbV.trans (own_grown_below HOV.out hg2 hzV)
      have hzV := Nat.le_trans hbs hbV.size
      have HPV := Lib.hid (HPV.out.grown hg2 (own_far_type HOV.out HPV.out (by decide)))
      have HOV := Lib.hid (show V.ownsRow bs 40 4 v2 X2.length (insR X2).flatten by rw [HXE.out]; exact own_eq hown2 (by simp) (by simp [insR, In4.cells]))
      clear hown2 hg2 HXE
    all_goals
      clear d2 hdm
      have hBV := HBK.out.below hbV hxb
      obtain ⟨-, -, -, -, -, -, -, c7, c8, c9, c10, c11⟩ := bk_cells hBV
      have cy := (show _ = some (Value.int .i64 (SY : Int)) from (BY.out.below hbV hyb).cell 7)
      have cn := (show _ = some (Value.int .i64 (SN : Int)) from (BN.out.below hbV hnb).cell 7)
      have d4 := (show _ = some (Value.int .i64 pl) from HPV.out.cell 4)
      have hpl := HPV.out.lt
      have n1 : V.heap.size ≠ w.heap.size := by omega
      have n2 : V.heap.size ≠ x := by omega
      have n3 : V.heap.size ≠ xy := by omega
      have n4 : V.heap.size ≠ xn := by omega
      clear hBV c7 c10 c11
      go_upto_region 8 with (go_at_call 65; refine (HLA.out _ hbV).mono ?_; rintro e w' ⟨rfl, rfl⟩)
      go_region_held3 (fun w' => w'.cell? ⟨w.heap.size, 4, none⟩ = some (.int .i64 pl) ∧ w'.cell? ⟨x, 8, none⟩ = some (.pointer (some ⟨xy, 0, none⟩)) ∧ w'.cell? ⟨x, 9, none⟩ = some (.pointer (some ⟨xn, 0, none⟩)) ∧ w'.cell? ⟨xy, 7, none⟩ = some (.int .i64 (SY : Int)) ∧ w'.cell? ⟨xn, 7, none⟩ = some (.int .i64 (SN : Int))) (go_keep) (fail)
      obtain ⟨U, hU⟩ : ∃ U, U = (V.alloc (.cells #[.int .i64 3, .int .i64 pl, .int .i64 ((SY : Int) - (SK + TK)), .int .i64 ((SN : Int) - (SK + TK))] 40)).drew := ⟨_, rfl⟩
      have hw2 : IntKind.i64.wrap ((SY : Int) - (SK + TK)) = SY - (SK + TK) := IntWalk.i64_in _ (by omega)
      have hw3 : IntKind.i64.wrap ((SN : Int) - (SK + TK)) = SN - (SK + TK) := IntWalk.i64_in _ (by omega)
      try simp only [hw2, hw3]
      rw [← hU]
      clear hw2 hw3
      have hVU : Below V.heap.size V U := by rw [hU]; go_grown
      have HTU := Lib.hid (show Blk U V.heap.size 40 #[.int .i64 3, .int .i64 pl, .int .i64 ((SY : Int) - (SK + TK)), .int .i64 ((SN : Int) - (SK + TK))] by rw [hU]; exact Blk.new V _ _)
      clear hU c8 c9 cy cn d4
      have x3 := (show _ = some (Value.int .i64 po) from (HPV.out.below hVU hpl).cell 3)
      rcases Decidable.em (po = 3) with ho | ho
      case' inl =>
        have HPO4 := Lib.hid ho
        have hdo : (po == 3) = true := by simp [ho]
        have t0 := (show _ = some (Value.int .i64 3) from HTU.out.cell 0)
        have tf := HTU.out.frozen 0
        clear ho
        go_upto_region 11 with (fail)
        obtain ⟨Z, hZ⟩ : ∃ Z, Z = U.setCell ⟨V.heap.size, 0, none⟩ (.int .i64 4) := ⟨_, rfl⟩
        rw [← hZ]
        have hVZ : Below V.heap.size V Z := by rw [hZ]; exact hVU.setCell (p := ⟨V.heap.size, 0, none⟩) (Nat.le_refl _) _
        obtain ⟨OP, hOP⟩ : ∃ OP : Int, OP = 4 := ⟨_, rfl⟩
        have HTZ := Lib.hid (show Blk Z V.heap.size 40 #[.int .i64 OP, .int .i64 pl, .int .i64 ((SY : Int) - (SK + TK)), .int .i64 ((SN : Int) - (SK + TK))] by rw [hZ, hOP]; exact HTU.out.set_ 0 _)
        have HPO := Lib.hid (show (if po = 3 then (4 : Int) else 3) = OP by rw [hOP, if_pos HPO4.out])
        clear hZ hOP t0 tf hdo HTU
      case' inr =>
        have HPO4 := Lib.hid ho
        have hdo : (po == 3) = false := by simp [ho]
        clear ho
        go_upto_region 11 with (fail)
        obtain ⟨Z, hZ⟩ : ∃ Z, Z = U := ⟨_, rfl⟩
        rw [← hZ]
        have hVZ : Below V.heap.size V Z := by rw [hZ]; exact hVU
        obtain ⟨OP, hOP⟩ : ∃ OP : Int, OP = 3 := ⟨_, rfl⟩
        have HTZ := Lib.hid (show Blk Z V.heap.size 40 #[.int .i64 OP, .int .i64 pl, .int .i64 ((SY : Int) - (SK + TK)), .int .i64 ((SN : Int) - (SK + TK))] by rw [hZ, hOP]; exact HTU.out)
        have HPO := Lib.hid (show (if po = 3 then (4 : Int) else 3) = OP by rw [hOP, if_neg HPO4.out])
        clear hZ hOP hdo HTU
      all_goals
        clear x3 hVU
        have hbZ := hbV.trans (hVZ.mono hzV)
        have c10 := (show _ = some (Value.bool yv) from (HBK.out.below hbZ hxb).cell 10)
        have hvz : V.heap.size < Z.heap.size := HTZ.out.lt
        cases yv
        case' false =>
          obtain ⟨TV, hTV⟩ : ∃ t : Int, t = (SY : Int) - (SK + TK) := ⟨_, rfl⟩
          obtain ⟨BL, hBL⟩ : ∃ l : List In4, l = [] := ⟨_, rfl⟩
          have HTV := Lib.hid (show (if false = true then 0 else (SY : Int) - (SK + TK)) = TV by rw [hTV]; rfl)
          have HBL := Lib.hid (show (if false = true then [⟨5, (SY : Int) - (SK + TK) - 1, 0, 0⟩] else ([] : List In4)) = BL by rw [hBL]; rfl)
          have hbl : BL.length = (false).toNat := by rw [hBL]; rfl
          have HTQ := Lib.hid (show Blk Z V.heap.size 40 #[.int .i64 OP, .int .i64 pl, .int .i64 TV, .int .i64 ((SN : Int) - (SK + TK))] by rw [hTV]; exact HTZ.out)
          go_upto_region 15 with (fail)
          obtain ⟨Q, hQ⟩ : ∃ Q, Q = Z := ⟨_, rfl⟩
          rw [← hQ] at HTQ
          rw [← hQ]
          have hVQ : Below V.heap.size V Q := by rw [hQ]; exact hVZ
          have hzq : Z.heap.size ≤ Q.heap.size := by rw [hQ]; exact Nat.le_refl _
          obtain ⟨JA, hJA⟩ : ∃ B : Option Addr, B = none := ⟨_, rfl⟩
          obtain ⟨bn, hbn⟩ : ∃ B : Nat, B = 0 := ⟨_, rfl⟩
          obtain ⟨cb, hcb⟩ : ∃ B : Nat, B = 0 := ⟨_, rfl⟩
          have hbn2 : bn = BL.length := by rw [hbn, hBL]; rfl
          have HBQ := Lib.hid (show Q.ownsRow Z.heap.size 40 4 (.slice JA bn cb) bn (insR BL).flatten by
            rw [hJA, hbn, hcb, hBL]
            exact World.ownsRow_nil _ _ _ _)
          have hval : Value.slice none 0 0 = .slice JA bn cb := by rw [hJA, hbn, hcb]
          rw [hval]
          clear hQ hJA hbn hcb hBL hTV hval c10
        case' true =>
          have t2 := (show _ = some (Value.int .i64 ((SY : Int) - (SK + TK))) from HTZ.out.cell 2)
          have tf := HTZ.out.frozen 2
          go_upto_region 14 with (fail)
          obtain ⟨Y, hY⟩ : ∃ Y, Y = Z.setCell ⟨V.heap.size, 2, none⟩ (.int .i64 0) := ⟨_, rfl⟩
          rw [← hY]
          have hVY : Below V.heap.size V Y := by rw [hY]; exact hVZ.setCell (p := ⟨V.heap.size, 2, none⟩) (Nat.le_refl _) _
          have HTY := Lib.hid (show Blk Y V.heap.size 40 #[.int .i64 OP, .int .i64 pl, .int .i64 0, .int .i64 ((SN : Int) - (SK + TK))] by rw [hY]; exact HTZ.out.set_ 2 _)
          have hzy : Z.heap.size ≤ Y.heap.size := by rw [hY]; simp
          clear hY t2 tf c10
          have hbY := hbV.trans (hVY.mono hzV)
          obtain ⟨-, -, -, -, -, -, -, c7, c8, c9, c10, c11⟩ := bk_cells (HBK.out.below hbY hxb)
          have cy := (show _ = some (Value.int .i64 (SY : Int)) from (BY.out.below hbY hyb).cell 7)
          clear c7 c9 c10 c11
          go_upto_region 15 with (at_builtin; go_must (refine wpList_app1g rfl (.tmp 70) (.tmp 82) _ rfl Z.heap.size 40 Tryz.underlying27 info_Ins rfl (by omega) (by omega) (.slice none 0 0) 0 [] rfl (World.ownsRow_nil _ _ _ _) rfl (by simp [Value.oneCell']) rfl (by omega) hzy ?_); intro v9 Q hown9 hg9 _)
          obtain ⟨TV, hTV⟩ : ∃ t : Int, t = 0 := ⟨_, rfl⟩
          obtain ⟨BL, hBL⟩ : ∃ l : List In4, l = [⟨5, (SY : Int) - (SK + TK) - 1, 0, 0⟩] := ⟨_, rfl⟩
          have HTV := Lib.hid (show (if true = true then 0 else (SY : Int) - (SK + TK)) = TV by rw [hTV]; rfl)
          have HBL := Lib.hid (show (if true = true then [⟨5, (SY : Int) - (SK + TK) - 1, 0, 0⟩] else ([] : List In4)) = BL by rw [hBL]; rfl)
          have hbl : BL.length = (true).toNat := by rw [hBL]; rfl
          have HTQ := Lib.hid (show Blk Q V.heap.size 40 #[.int .i64 OP, .int .i64 pl, .int .i64 TV, .int .i64 ((SN : Int) - (SK + TK))] by rw [hTV]; exact HTY.out.grown hg9 (by simp [Value.ownBlock]))
          obtain ⟨B9, cb, rfl, hB1, hB2⟩ := hown9.form (by omega)
          obtain ⟨JA, hJA⟩ : ∃ B : Option Addr, B = some ⟨B9, 0, none⟩ := ⟨_, rfl⟩
          obtain ⟨bn, hbn⟩ : ∃ B : Nat, B = 1 := ⟨_, rfl⟩
          have HBQ := Lib.hid (show Q.ownsRow Z.heap.size 40 4 (.slice JA bn cb) bn (insR BL).flatten by
            rw [hJA, hbn, hBL]
            simpa [insR, In4.cells] using hown9)
          have hzq : Z.heap.size ≤ Q.heap.size := by have := hg9.size; omega
          have hVQ : Below V.heap.size V Q := hVY.grown hg9 hVY.size (by simp [Value.ownBlock])
          have hbn2 : bn = BL.length := by rw [hbn, hBL]; rfl
          have hval : Value.slice (some ⟨B9, 0, none⟩) (0 + 1) cb = .slice JA bn cb := by rw [hJA, hbn]
          try rw [hval]
          clear hJA hbn hBL hTV hval hown9 hg9 HTY hzy hB1 hB2 c8 cy hbY hVY
        all_goals
          clear hbZ
          have hbQ := hbV.trans (hVQ.mono hzV)
          have c11 := (show _ = some (Value.bool nv) from (HBK.out.below hbQ hxb).cell 11)
          have hvq := hVQ.size
          have hbn1 : bn ≤ 1 := by rw [hbn2, hbl]; decide
          have HBN2 := Lib.hid hbn2
          have HBT := Lib.hid (show (bn : Int) = _ from congrArg (Nat.cast : Nat → Int) (hbn2.trans hbl))
          clear hbn2 hbl
          cases nv
          case' false =>
            obtain ⟨NV, hNV⟩ : ∃ t : Int, t = (SN : Int) - (SK + TK) := ⟨_, rfl⟩
            have HTR := Lib.hid (show Blk Q V.heap.size 40 #[.int .i64 OP, .int .i64 pl, .int .i64 TV, .int .i64 NV] by rw [hNV]; exact HTQ.out)
            go_upto_region 18 with (fail)
            obtain ⟨CL, hCL⟩ : ∃ l : List In4, l = [] := ⟨_, rfl⟩
            have HNQ := Lib.hid (show (if false = true then (bn : Int) else (SN : Int) - (SK + TK)) = NV by rw [hNV]; rfl)
            have HCL := Lib.hid (show (if false = true then [⟨5, (SN : Int) - (SK + TK) - (bn : Int) - 1, 0, 0⟩] else ([] : List In4)) = CL by rw [hCL]; rfl)
            obtain ⟨R, hR⟩ : ∃ Y, Y = Q := ⟨_, rfl⟩
            rw [← hR] at HTR
            rw [← hR]
            have hVR : Below V.heap.size V R := by rw [hR]; exact hVQ
            have hzr : Z.heap.size ≤ R.heap.size := by rw [hR]; exact hzq
            obtain ⟨JD, hJD⟩ : ∃ t : Option Addr, t = JA := ⟨_, rfl⟩
            obtain ⟨dn, hdn⟩ : ∃ t : Nat, t = bn := ⟨_, rfl⟩
            obtain ⟨cd, hcd⟩ : ∃ t : Nat, t = cb := ⟨_, rfl⟩
            have HDR := Lib.hid (show R.ownsRow Z.heap.size 40 4 (.slice JD dn cd) dn (insR (BL ++ CL)).flatten by rw [hR, hCL, hJD, hdn, hcd, List.append_nil]; exact HBQ.out)
            have hdn2 : dn = (BL ++ CL).length := by rw [hdn, hCL, List.append_nil]; exact HBN2.out
            have hdn3 : dn ≤ 2 := by omega
            have hval : Value.slice JA bn cb = .slice JD dn cd := by rw [hJD, hdn, hcd]
            rw [hval]
            clear hval hR hJD hdn hcd hNV hCL c11
          case' true =>
            have t3 := (show _ = some (Value.int .i64 ((SN : Int) - (SK + TK))) from HTQ.out.cell 3)
            have tf := HTQ.out.frozen 3
            go_upto_region 17 with (fail)
            obtain ⟨Y2, hY2⟩ : ∃ Y, Y = Q.setCell ⟨V.heap.size, 3, none⟩ (.int .i64 (bn : Int)) := ⟨_, rfl⟩
            rw [← hY2]
            have hVY2 : Below V.heap.size V Y2 := by rw [hY2]; exact hVQ.setCell (p := ⟨V.heap.size, 3, none⟩) (Nat.le_refl _) _
            have HTY2 := Lib.hid (show Blk Y2 V.heap.size 40 #[.int .i64 OP, .int .i64 pl, .int .i64 TV, .int .i64 (bn : Int)] by rw [hY2]; exact HTQ.out.set_ 3 _)
            have HBY2 := Lib.hid (show Y2.ownsRow Z.heap.size 40 4 (.slice JA bn cb) bn (insR BL).flatten by rw [hY2]; exact ownsRow_setCell_below HBQ.out (by exact HTZ.out.lt) _)
            have hzy2 : Z.heap.size ≤ Y2.heap.size := by rw [hY2]; simpa using hzq
            clear hY2 t3 tf c11
            have hbY2 := hbV.trans (hVY2.mono hzV)
            obtain ⟨-, -, -, -, -, -, -, c7, c8, c9, c10, c11⟩ := bk_cells (HBK.out.below hbY2 hxb)
            have cn := (show _ = some (Value.int .i64 (SN : Int)) from (BN.out.below hbY2 hnb).cell 7)
            clear c7 c8 c10 c11
            go_upto_region 18 with (at_builtin; go_must (refine wpList_app1g rfl (.tmp 91) (.tmp 106) _ rfl Z.heap.size 40 Tryz.underlying27 info_Ins rfl (by omega) (by omega) (.slice JA bn cb) bn (insR BL) rfl HBY2.out rfl (by simp [Value.oneCell']) rfl (by omega) hzy2 ?_); intro v8 R hown8 hg8 _)
            obtain ⟨NV, hNV⟩ : ∃ t : Int, t = (bn : Int) := ⟨_, rfl⟩
            obtain ⟨CL, hCL⟩ : ∃ l : List In4, l = [⟨5, (SN : Int) - (SK + TK) - (bn : Int) - 1, 0, 0⟩] := ⟨_, rfl⟩
            have HNQ := Lib.hid (show (if true = true then (bn : Int) else (SN : Int) - (SK + TK)) = NV by rw [hNV]; rfl)
            have HCL := Lib.hid (show (if true = true then [⟨5, (SN : Int) - (SK + TK) - (bn : Int) - 1, 0, 0⟩] else ([] : List In4)) = CL by rw [hCL]; rfl)
            have HTR := Lib.hid (show Blk R V.heap.size 40 #[.int .i64 OP, .int .i64 pl, .int .i64 TV, .int .i64 NV] by rw [hNV]; exact HTY2.out.grown hg8 (fun e => by have := (HBY2.out.lt _ e.symm).1; omega))
            obtain ⟨D8, cd, rfl, hD1, hD2⟩ := hown8.form (by omega)
            obtain ⟨JD, hJD⟩ : ∃ B : Option Addr, B = some ⟨D8, 0, none⟩ := ⟨_, rfl⟩
            obtain ⟨dn, hdn⟩ : ∃ B : Nat, B = bn + 1 := ⟨_, rfl⟩
            have HDR := Lib.hid (show R.ownsRow Z.heap.size 40 4 (.slice JD dn cd) dn (insR (BL ++ CL)).flatten by
              rw [hJD, hdn, hCL]
              simpa [insR, In4.cells] using hown8)
            have hzr : Z.heap.size ≤ R.heap.size := by have := hg8.size; omega
            have hVR : Below V.heap.size V R := hVY2.grown hg8 hVY2.size (fun k hk => by have := (HBY2.out.lt _ hk).1; omega)
            have hdn2 : dn = (BL ++ CL).length := by rw [hdn, hCL, List.length_append, ← HBN2.out]; rfl
            have hdn3 : dn ≤ 2 := by omega
            have hval : Value.slice (some ⟨D8, 0, none⟩) (bn + 1) cd = .slice JD dn cd := by rw [hJD, hdn]
            try rw [hval]
            clear hJD hdn hCL hNV hval hown8 hg8 HBY2 HTY2 hzy2 hD1 hD2 c9 cn hbY2 hVY2
          all_goals
            have e0 := (show _ = some (Value.int .i64 OP) from HTR.out.cell 0)
            have e1 := (show _ = some (Value.int .i64 pl) from HTR.out.cell 1)
            have e2 := (show _ = some (Value.int .i64 TV) from HTR.out.cell 2)
            have e3 := (show _ = some (Value.int .i64 NV) from HTR.out.cell 3)
            have HOR := Lib.hid (own_below HOV.out hVR)
            have hbR := hbV.trans (hVR.mono hzV)
            have hrz := Nat.le_trans hbs hbR.size
            have HDN := Lib.hid hdn2
            clear hdn2
            go_wp2_with (at_builtin; first
              | (((refine wpList_app1g (w0 := R) rfl (.tmp 108) (.tmp 110) _ rfl bs 40 Tryz.underlying27 info_Ins rfl (by omega) (by omega) v2 X2.length (insR X2) rfl HOR.out rfl (by simp [Value.oneCell']) rfl (by omega) hrz ?_)); intro v5 w5 hown5 hg5 _; have hb5 := own_grown_below HOR.out hg5 hrz; have hd5 := HDR.out.kept hg5 (own_apart_l HOV.out HDR.out (by omega)); have hz5 := Nat.le_trans hrz hb5.size; have HO5 := Lib.hid hown5; have HD5 := Lib.hid hd5; clear hown5 hd5 hg5)
              | ((go_must (refine wpList_app_rows rfl (.tmp 111) (.tmp 112) _ rfl bs 40 Tryz.underlying27 info_Ins rfl (by omega) (by omega) v5 (X2.length + 1) _ rfl HO5.out Z.heap.size (.slice JD dn cd) dn (insR (BL ++ CL)).flatten rfl HD5.out (ins_one _) (by omega) hz5 ?_)); intro v7 w7 hown7 hg7; have hb7 := own_grown_below HO5.out hg7 hz5; have HO7 := Lib.hid hown7; clear hown7 hg7))
            go_ret
            refine ⟨v7, rfl, own_eq HO7.out ?_ ?_, (hbR.trans hb5).trans hb7⟩
            · rw [HP.out, HPO.out, ← HBT.out, HTV.out, HNQ.out, HBL.out, HCL.out, HDN.out, ← HX2.out]
              simp
              try omega
            · rw [HP.out, HPO.out, ← HBT.out, HTV.out, HNQ.out, HBL.out, HCL.out, ← HX2.out]
              simp [insR, In4.cells]
end Go.Proofs.YtgdelnpielfhkaaGreatDoor
