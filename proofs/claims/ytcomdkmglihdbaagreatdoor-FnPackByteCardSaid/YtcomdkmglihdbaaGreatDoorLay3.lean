/- How the points of a graph are laid: l5Point: a point's places. -/
import Derived.Test.YtcomdkmglihdbaaGreatDoorLay2
import Derived.Test.YtcomdkmglihdbaaGreatDoorKit
import Derived.StillTailTactics
import Derived.Deep.CutBlock
import Derived.Deep.RegionHeld3
namespace Go.Proofs.YtcomdkmglihdbaaGreatDoor
open Go.RowKit
set_option linter.unusedSimpArgs false
set_option linter.unusedVariables false

theorem ins_one (g : List In4) : ∀ u ∈ (insR g).flatten, u.oneCell' = true := by
  intro u hu
  simp only [insR, List.mem_flatten, List.mem_map] at hu
  obtain ⟨r, ⟨p, _, rfl⟩, hu⟩ := hu
  simp [In4.cells] at hu
  rcases hu with rfl | rfl | rfl | rfl <;> rfl
theorem insR_app (g g' : List In4) : insR (g ++ g') = insR g ++ insR g' := by simp [insR]

theorem own_apart_l {V R : World} {b1 b2 s1 s2 n1 n2 : Nat} {e1 e2 : TypeId} {v1 v2 : Value} {x1 x2 : List Value} (h1 : V.ownsRow b1 e1 s1 v1 n1 x1) (h2 : R.ownsRow b2 e2 s2 v2 n2 x2) (hb : V.heap.size ≤ b2) : v2.ownBlock = none ∨ v2.ownBlock ≠ v1.ownBlock := by
  cases h : v2.ownBlock with
  | none => exact .inl rfl
  | some k =>
    refine .inr fun e => ?_
    have a := (h2.lt k h).1
    have b := (h1.lt k e.symm).2
    omega
theorem own_eq {w : World} {b s n n' : Nat} {e : TypeId} {v : Value} {xs xs' : List Value} (h : w.ownsRow b e s v n xs) (hn : n = n') (hx : xs = xs') : w.ownsRow b e s v n' xs' := by subst hn; subst hx; exact h

theorem Starts.get {g : List Pt} {ys ns : List Bool} {ps : List Nat} (h : Starts g ys ns ps) {j n : Nat} (hl : g.length = n) (hj : j < n) : ps[j]? = some (stAt g ys ns j) := h j (by omega)

set_option maxRecDepth 100000 in
set_option maxHeartbeats 16000000 in
theorem l5Point_any (A : Option Addr) (n c L yb nb ab i : Nat) (g : List Pt) (ys ns : List Bool) (ps : List Nat) (w : World) (hA : SlA w 7 A n c (g.map Pt.cells)) (hg : graphOk g) (hL : Lay w L yb nb ab n ys ns ps) (hst : Starts g ys ns ps) (hi : i < n) :
    Calls Tryz.prog 120 #[.slice A n c, .pointer (some ⟨L, 0, none⟩), .int .i64 i] w fun e w' => ∃ v, e = .returned v ∧ w'.ownsRow w.heap.size 180 4 v (ptCode g ys ns i).length (insR (ptCode g ys ns i)).flatten ∧ Below w.heap.size w w' := by
  have hl : g.length = n := by have := hA.len; simpa using this
  have hn120 : n ≤ 120 := by rw [← hl]; exact hg.1.2
  have hc := hA.cap
  have hm := hA.max
  unfold maxLen at hm
  have hii : (i : Int) < n := by omega
  obtain ⟨b, off, p, rfl, hab, hgp, hcell⟩ := pts_get hA hi
  obtain ⟨c0, c1, c2, c3, c4, c5, c6⟩ := hcell w _ (Below.refl _ _) hab
  by_cases h0 : p.op = 0
  · have hp : ptCode g ys ns i = [⟨6, p.verdict, 0, 0⟩] := by unfold ptCode; rw [hgp]; simp only []; rw [if_pos h0]
    have HP := Lib.hid hp
    rw [h0] at c3
    clear hp h0 hL hst hA hg hgp hcell
    go_enter Tryz.func120, Tryz.ntmps120
    go_wp2
    go_ret
    refine ⟨.slice (some ⟨w.heap.size + 1, 0, none⟩) 1 1, rfl, ?_, by go_grown⟩
    rw [HP.out]
    have := World.ownsRow_lit (base := w.heap.size) (e := 180) (size := 4) (w.alloc (.cells #[.int .i64 p.verdict, .int .i64 p.field, .int .i64 p.mask, .int .i64 0, .int .i64 p.value, .int .i64 p.yes, .int .i64 p.no] 190)) #[.int .i64 6, .int .i64 p.verdict, .int .i64 0, .int .i64 0] 1 (by simp) (by unfold maxLen; omega) rfl
    simpa [insR, In4.cells] using this
  · obtain ⟨y, nn, hy, hnn, hyk, hnk⟩ := look_ways hg hgp h0
    have hyi : (y : Int) < n := by omega
    have hni : (nn : Int) < n := by omega
    obtain ⟨yv, hyv⟩ := bRow_some hL.yl hi
    obtain ⟨nv, hnv⟩ := bRow_some hL.nl hi
    have d1 := bRow_cell hL.yes hyv
    have d2 := bRow_cell hL.no hnv
    have d3 := nRow_cell hL.pl (hst.get hl hi)
    have d4 := nRow_cell hL.pl (hst.get hl (j := y) (by omega))
    have d5 := nRow_cell hL.pl (hst.get hl (j := nn) (by omega))
    have b0 := (show _ = some (Value.slice (some ⟨yb, 0, none⟩) n n) from hL.box.cell 0)
    have b1 := (show _ = some (Value.slice (some ⟨nb, 0, none⟩) n n) from hL.box.cell 1)
    have b2 := (show _ = some (Value.slice (some ⟨ab, 0, none⟩) n n) from hL.box.cell 2)
    have s1 : stAt g ys ns i ≤ 600 := Nat.le_trans (stAt_le g ys ns i) (by omega)
    have s2 : stAt g ys ns y ≤ 600 := Nat.le_trans (stAt_le g ys ns y) (by omega)
    have s3 : stAt g ys ns nn ≤ 600 := Nat.le_trans (stAt_le g ys ns nn) (by omega)
    have s4 : testAt g i ≤ 3 := by unfold testAt; split <;> (try split) <;> omega
    have hp : ptCode g ys ns i = [⟨1, p.field, 0, 0⟩] ++ (if p.mask = 4294967295 then [] else [⟨2, p.mask, 0, 0⟩]) ++
        [⟨if p.op = 3 then 4 else 3, p.value, if yv then 0 else (stAt g ys ns y : Int) - (stAt g ys ns i + testAt g i), if nv then (yv.toNat : Int) else (stAt g ys ns nn : Int) - (stAt g ys ns i + testAt g i)⟩] ++
        (if yv then [⟨5, (stAt g ys ns y : Int) - (stAt g ys ns i + testAt g i) - 1, 0, 0⟩] else []) ++
        (if nv then [⟨5, (stAt g ys ns nn : Int) - (stAt g ys ns i + testAt g i) - yv.toNat - 1, 0, 0⟩] else []) := by
      unfold ptCode
      rw [hgp]
      simp only []
      rw [if_neg h0, hyv, hnv, hy, hnn]
      rfl
    rw [hy] at c5
    rw [hnn] at c6
    have hd : (p.op == 0) = false := by simp [h0]
    have HP := Lib.hid hp; have HSA := Lib.hid hA; have HLx := Lib.hid hL
    have HYV := Lib.hid hyv; have HNV := Lib.hid hnv; have HS1 := Lib.hid (hst.get hl hi); have HS2 := Lib.hid (hst.get hl (j := y) (by omega)); have HS3 := Lib.hid (hst.get hl (j := nn) (by omega)); have HK := Lib.hid (show n ≤ 1000 by omega)
    clear hp hA hL hst hyv hnv hgp hcell hg hy hnn h0
    obtain ⟨pv, pf, pm, po, pl, py, pn⟩ := p
    simp only at c0 c1 c2 c3 c4 c5 c6 hd
    generalize stAt g ys ns i = SK at *
    generalize stAt g ys ns y = SY at *
    generalize stAt g ys ns nn = SN at *
    have X0 := Blk.new w 190 #[.int .i64 pv, .int .i64 pf, .int .i64 pm, .int .i64 po, .int .i64 pl, .int .i64 y, .int .i64 nn]
    have s5 : (600 : Int) ≤ 1000 := by omega
    have O0 : ((w.alloc (.cells #[.int .i64 pv, .int .i64 pf, .int .i64 pm, .int .i64 po, .int .i64 pl, .int .i64 y, .int .i64 nn] 190)).alloc (.cells #[.int .i64 1, .int .i64 pf, .int .i64 0, .int .i64 0] 180)).ownsRow w.heap.size 180 4 (.slice (some ⟨w.heap.size + 1, 0, none⟩) 1 1) ([⟨1, pf, 0, 0⟩] : List In4).length (insR [⟨1, pf, 0, 0⟩]).flatten := by
      have := World.ownsRow_lit (base := w.heap.size) (e := 180) (size := 4) (w.alloc (.cells #[.int .i64 pv, .int .i64 pf, .int .i64 pm, .int .i64 po, .int .i64 pl, .int .i64 y, .int .i64 nn] 190)) #[.int .i64 1, .int .i64 pf, .int .i64 0, .int .i64 0] 1 (by simp) (by unfold maxLen; omega) rfl
      simpa [insR, In4.cells] using this
    have X1 : Blk ((w.alloc (.cells #[.int .i64 pv, .int .i64 pf, .int .i64 pm, .int .i64 po, .int .i64 pl, .int .i64 y, .int .i64 nn] 190)).alloc (.cells #[.int .i64 1, .int .i64 pf, .int .i64 0, .int .i64 0] 180)) w.heap.size 190 #[.int .i64 pv, .int .i64 pf, .int .i64 pm, .int .i64 po, .int .i64 pl, .int .i64 y, .int .i64 nn] := X0.alloc _
    have hb1 : Below w.heap.size w ((w.alloc (.cells #[.int .i64 pv, .int .i64 pf, .int .i64 pm, .int .i64 po, .int .i64 pl, .int .i64 y, .int .i64 nn] 190)).alloc (.cells #[.int .i64 1, .int .i64 pf, .int .i64 0, .int .i64 0] 180)) := by go_grown
    have HO := Lib.hid O0; have HX := Lib.hid X1; clear O0 X1 X0
    rcases Decidable.em (pm = 4294967295) with hm4 | hm4
    case' inl =>
      have hdm : (pm != 4294967295) = false := by simp [hm4]
      have HM := Lib.hid (show (if pm = 4294967295 then ([] : List In4) else [⟨2, pm, 0, 0⟩]) = [] by rw [if_pos hm4])
      clear hm4
      go_enter Tryz.func120, Tryz.ntmps120
      obtain ⟨W, hW⟩ : ∃ W, W = ((w.alloc (.cells #[.int .i64 pv, .int .i64 pf, .int .i64 pm, .int .i64 po, .int .i64 pl, .int .i64 y, .int .i64 nn] 190)).alloc (.cells #[.int .i64 1, .int .i64 pf, .int .i64 0, .int .i64 0] 180)) := ⟨_, rfl⟩
      go_wp2
      rw [← hW]
      have HO1 := Lib.hid (show W.ownsRow w.heap.size 180 4 (.slice (some ⟨w.heap.size + 1, 0, none⟩) 1 1) ([⟨1, pf, 0, 0⟩] : List In4).length (insR [⟨1, pf, 0, 0⟩]).flatten by rw [hW]; exact HO.out)
      have HX1 := Lib.hid (show Blk W w.heap.size 190 #[.int .i64 pv, .int .i64 pf, .int .i64 pm, .int .i64 po, .int .i64 pl, .int .i64 y, .int .i64 nn] by rw [hW]; exact HX.out)
      have hbW : Below w.heap.size w W := by rw [hW]; exact hb1
      clear hW
    case' inr =>
      have hdm : (pm != 4294967295) = true := by simp [hm4]
      have HM := Lib.hid (show (if pm = 4294967295 then ([] : List In4) else [⟨2, pm, 0, 0⟩]) = [⟨2, pm, 0, 0⟩] by rw [if_neg hm4])
      clear hm4
      go_enter Tryz.func120, Tryz.ntmps120
      obtain ⟨W0, hW0⟩ : ∃ W, W = ((w.alloc (.cells #[.int .i64 pv, .int .i64 pf, .int .i64 pm, .int .i64 po, .int .i64 pl, .int .i64 y, .int .i64 nn] 190)).alloc (.cells #[.int .i64 1, .int .i64 pf, .int .i64 0, .int .i64 0] 180)) := ⟨_, rfl⟩
      go_upto_region 6 with (fail)
      rw [← hW0]
      have HO0 := Lib.hid (show W0.ownsRow w.heap.size 180 4 (.slice (some ⟨w.heap.size + 1, 0, none⟩) 1 1) 1 (insR [⟨1, pf, 0, 0⟩]).flatten by rw [hW0]; exact HO.out)
      have HX0 := Lib.hid (show Blk W0 w.heap.size 190 #[.int .i64 pv, .int .i64 pf, .int .i64 pm, .int .i64 po, .int .i64 pl, .int .i64 y, .int .i64 nn] by rw [hW0]; exact HX.out)
      have hb0 : Below w.heap.size w W0 := by rw [hW0]; exact hb1
      have hz0 := hb0.size
      have x2 := (show _ = some (Value.int .i64 pm) from HX0.out.cell 2)
      clear hW0
      go_wp2_with (at_builtin; go_must (refine wpList_app1g rfl (.tmp 30) (.tmp 34) _ rfl w.heap.size 180 Tryz.underlying118 info_Ins rfl (by omega) (by omega) (.slice (some ⟨w.heap.size + 1, 0, none⟩) 1 1) 1 (insR [⟨1, pf, 0, 0⟩]) rfl HO0.out rfl (by simp [Value.oneCell']) rfl (by omega) (by omega) ?_); intro v5 W hown5 hg5 _; obtain ⟨g5, cap5, rfl, hg5', hg5''⟩ := hown5.form (by omega))
      have HO1 := Lib.hid (show W.ownsRow w.heap.size 180 4 (.slice (some ⟨g5, 0, none⟩) 2 cap5) ([⟨1, pf, 0, 0⟩, ⟨2, pm, 0, 0⟩] : List In4).length (insR [⟨1, pf, 0, 0⟩, ⟨2, pm, 0, 0⟩]).flatten by simpa [insR, In4.cells] using hown5)
      have HX1 := Lib.hid (HX0.out.grown hg5 (by simp [Value.ownBlock]))
      have hbW : Below w.heap.size w W := hb0.trans ((Below.refl _ _).grown hg5 hz0 (fun k hk => (HO0.out.lt k hk).1))
      clear hown5 hg5
    all_goals
      clear c0 c1 c2 c3 c4 c5 c6 d1 d2 d3 d4 d5 b0 b1 b2 hb1 HX HO hd hdm
      have HLW := Lib.hid (HLx.out.below hbW)
      have HSAm := Lib.hid (fun m : Nat => (HSA.out.below hbW).below (drewN_below W m))
      have d3 := nRow_cell HLW.out.pl HS1.out
      have b2 := (show _ = some (Value.slice (some ⟨ab, 0, none⟩) n n) from HLW.out.box.cell 2)
      go_quiet ((go_at_call 127; refine Calls.quiet_of_same ((l5Test_any _ n c i g _ (HSAm.out _) hi HK.out).mono fun _ _ h => ⟨h.1, h.2.symm⟩)))
      generalize testAt g i = TK at *
      obtain ⟨V, hV⟩ : ∃ V, V = W.drewN nq := ⟨_, rfl⟩
      rw [← hV]
      have HLV := Lib.hid (show Lay V L yb nb ab n ys ns ps by rw [hV]; exact HLW.out.below (drewN_below _ nq))
      have hbV : Below w.heap.size w V := by rw [hV]; exact below_then hbW (drewN_below _ nq)
      have HOV := Lib.hid (own_below HO1.out (show Below W.heap.size W V by rw [hV]; exact drewN_below _ nq))
      have HXV := Lib.hid (HX1.out.below (show Below W.heap.size W V by rw [hV]; exact drewN_below _ nq) HX1.out.lt)
      clear hV HLW HSAm d3 b2 HO1 HX1 hbW
      have d4 := nRow_cell HLV.out.pl HS2.out
      have d5 := nRow_cell HLV.out.pl HS3.out
      have b2 := (show _ = some (Value.slice (some ⟨ab, 0, none⟩) n n) from HLV.out.box.cell 2)
      have x3 := (show _ = some (Value.int .i64 po) from HXV.out.cell 3)
      have x4 := (show _ = some (Value.int .i64 pl) from HXV.out.cell 4)
      have x5 := (show _ = some (Value.int .i64 (y : Int)) from HXV.out.cell 5)
      have x6 := (show _ = some (Value.int .i64 (nn : Int)) from HXV.out.cell 6)
      have hvz := hbV.size
      have HXA := HXV.out.alloc (.cells #[.int .i64 0, .int .i64 0, .int .i64 0, .int .i64 0] 180)
      have HLA := HLV.out.below (show Below V.heap.size V (V.alloc (.cells #[.int .i64 0, .int .i64 0, .int .i64 0, .int .i64 0] 180)) by go_grown)
      have e4 := nRow_cell HLA.pl HS2.out
      have e5 := nRow_cell HLA.pl HS3.out
      have a2 := (show _ = some (Value.slice (some ⟨ab, 0, none⟩) n n) from HLA.box.cell 2)
      have w4 := (show _ = some (Value.int .i64 pl) from HXA.cell 4)
      have w5 := (show _ = some (Value.int .i64 (y : Int)) from HXA.cell 5)
      have w6 := (show _ = some (Value.int .i64 (nn : Int)) from HXA.cell 6)
      clear HXA HLA
      have n1 : V.heap.size ≠ w.heap.size := by have := HXV.out.lt; omega
      have n2 : V.heap.size ≠ ab := by have := HLV.out.pl.lt; omega
      have n3 : V.heap.size ≠ L := by have := HLV.out.box.lt; omega
      have n1' := n1.symm; have n2' := n2.symm; have n3' := n3.symm
      go_wp2
      go_region_held3 (fun w' => w'.cell? ⟨w.heap.size, 4, none⟩ = some (.int .i64 pl) ∧ w'.cell? ⟨w.heap.size, 5, none⟩ = some (.int .i64 (y : Int)) ∧ w'.cell? ⟨w.heap.size, 6, none⟩ = some (.int .i64 (nn : Int)) ∧ w'.cell? ⟨ab, y, none⟩ = some (.int .i64 (SY : Int)) ∧ w'.cell? ⟨ab, nn, none⟩ = some (.int .i64 (SN : Int)) ∧ w'.cell? ⟨L, 2, none⟩ = some (.slice (some ⟨ab, 0, none⟩) n n))
        (first | exact ⟨x4, x5, x6, d4, d5, b2⟩ | exact ⟨w4, w5, w6, e4, e5, a2⟩ | go_keep) (fail)
      obtain ⟨U, hU⟩ : ∃ U, U = (V.alloc (.cells #[.int .i64 3, .int .i64 pl, .int .i64 ((SY : Int) - (SK + TK)), .int .i64 ((SN : Int) - (SK + TK))] 180)).drew := ⟨_, rfl⟩
      have hw2 : IntKind.i64.wrap ((SY : Int) - (SK + TK)) = SY - (SK + TK) := IntWalk.i64_in _ (by omega)
      have hw3 : IntKind.i64.wrap ((SN : Int) - (SK + TK)) = SN - (SK + TK) := IntWalk.i64_in _ (by omega)
      simp only [hw2, hw3]
      rw [← hU]
      clear hw2 hw3
      have hVU : Below V.heap.size V U := by rw [hU]; go_grown
      have HTU := Lib.hid (show Blk U V.heap.size 180 #[.int .i64 3, .int .i64 pl, .int .i64 ((SY : Int) - (SK + TK)), .int .i64 ((SN : Int) - (SK + TK))] by rw [hU]; exact Blk.new V _ _)
      have hbU := below_then hbV hVU
      have hxl := HXV.out.lt
      clear hU x4 x6 d4 d5 b2 w4 w5 w6 e4 e5 a2 n1 n2 n3 n1' n2' n3' x3 x5
      have x3 := (show _ = some (Value.int .i64 po) from (HXV.out.below hVU hxl).cell 3)
      rcases Decidable.em (po = 3) with ho | ho
      case' inl =>
        have HPO4 := Lib.hid ho
        have hdo : (po == 3) = true := by simp [ho]
        have t0 := (show _ = some (Value.int .i64 3) from HTU.out.cell 0)
        have tf := HTU.out.frozen 0
        clear ho
        go_upto_region 11 with (fail)
        obtain ⟨Z, hZ⟩ : ∃ Z, Z = U.setCell ⟨V.heap.size, 0, none⟩ (.int .i64 4) := ⟨_, rfl⟩
        rw [← hZ]
        have hVZ : Below V.heap.size V Z := by rw [hZ]; exact hVU.setCell (p := ⟨V.heap.size, 0, none⟩) (Nat.le_refl _) _
        obtain ⟨OP, hOP⟩ : ∃ OP : Int, OP = 4 := ⟨_, rfl⟩
        have HTZ := Lib.hid (show Blk Z V.heap.size 180 #[.int .i64 OP, .int .i64 pl, .int .i64 ((SY : Int) - (SK + TK)), .int .i64 ((SN : Int) - (SK + TK))] by rw [hZ, hOP]; exact HTU.out.set_ 0 _)
        have HPO := Lib.hid (show (if po = 3 then (4 : Int) else 3) = OP by rw [hOP, if_pos HPO4.out])
        clear hZ hOP t0 tf hdo HTU
      case' inr =>
        have HPO4 := Lib.hid ho
        have hdo : (po == 3) = false := by simp [ho]
        clear ho
        go_upto_region 11 with (fail)
        obtain ⟨Z, hZ⟩ : ∃ Z, Z = U := ⟨_, rfl⟩
        rw [← hZ]
        have hVZ : Below V.heap.size V Z := by rw [hZ]; exact hVU
        obtain ⟨OP, hOP⟩ : ∃ OP : Int, OP = 3 := ⟨_, rfl⟩
        have HTZ := Lib.hid (show Blk Z V.heap.size 180 #[.int .i64 OP, .int .i64 pl, .int .i64 ((SY : Int) - (SK + TK)), .int .i64 ((SN : Int) - (SK + TK))] by rw [hZ, hOP]; exact HTU.out)
        have HPO := Lib.hid (show (if po = 3 then (4 : Int) else 3) = OP by rw [hOP, if_neg HPO4.out])
        clear hZ hOP hdo HTU
      all_goals
        clear x3 hVU hbU
        have HLZ := Lib.hid (HLV.out.below hVZ)
        have HXZ := Lib.hid (HXV.out.below hVZ hxl)
        have b0 := (show _ = some (Value.slice (some ⟨yb, 0, none⟩) n n) from (HLZ.out.below (show Below Z.heap.size Z (Z.alloc (.cells #[] 180)) by go_grown)).box.cell 0)
        have d1 := bRow_cell (HLZ.out.below (show Below Z.heap.size Z (Z.alloc (.cells #[] 180)) by go_grown)).yes HYV.out
        cases yv
        case' false =>
          obtain ⟨TV, hTV⟩ : ∃ t : Int, t = (SY : Int) - (SK + TK) := ⟨_, rfl⟩
          obtain ⟨BL, hBL⟩ : ∃ l : List In4, l = [] := ⟨_, rfl⟩
          have HTV := Lib.hid (show (if false = true then 0 else (SY : Int) - (SK + TK)) = TV by rw [hTV]; rfl)
          have HBL := Lib.hid (show (if false = true then [⟨5, (SY : Int) - (SK + TK) - 1, 0, 0⟩] else ([] : List In4)) = BL by rw [hBL]; rfl)
          have hbl : BL.length = (false).toNat := by rw [hBL]; rfl
          have HTQ0 := Lib.hid (show Blk Z V.heap.size 180 #[.int .i64 OP, .int .i64 pl, .int .i64 TV, .int .i64 ((SN : Int) - (SK + TK))] by rw [hTV]; exact HTZ.out)
          go_upto_region 15 with (fail)
          obtain ⟨Q, hQ⟩ : ∃ Q, Q = (Z.alloc (.cells #[] 180)) := ⟨_, rfl⟩
          rw [← hQ]
          have hVQ : Below V.heap.size V Q := by rw [hQ]; exact hVZ.alloc hVZ.size _
          have HTQ := Lib.hid (show Blk Q V.heap.size 180 #[.int .i64 OP, .int .i64 pl, .int .i64 TV, .int .i64 ((SN : Int) - (SK + TK))] by rw [hQ]; exact HTQ0.out.alloc _)
          obtain ⟨B, hB⟩ : ∃ B : Nat, B = Z.heap.size := ⟨_, rfl⟩
          obtain ⟨bn, hbn⟩ : ∃ B : Nat, B = 0 := ⟨_, rfl⟩
          obtain ⟨bi, hbi⟩ : ∃ B : Int, B = 0 := ⟨_, rfl⟩
          obtain ⟨cb, hcb⟩ : ∃ B : Nat, B = 0 := ⟨_, rfl⟩
          have HBQ := Lib.hid (show Q.ownsRow Z.heap.size 180 4 (.slice (some ⟨B, 0, none⟩) bn cb) bn (insR BL).flatten by
            rw [hQ, hB, hbn, hcb, hBL]
            exact World.ownsRow_lit (base := Z.heap.size) (e := 180) (size := 4) Z #[] 0 (Nat.le_refl _) (by unfold maxLen; omega) rfl)
          have hzq : Z.heap.size ≤ Q.heap.size := by rw [hQ]; simp
          have hbn2 : bn = BL.length := by rw [hbn, hBL]; rfl
          have hval : Value.slice (some ⟨Z.heap.size, 0, none⟩) 0 0 = .slice (some ⟨B, 0, none⟩) bn cb := by rw [hB, hbn, hcb]
          rw [hval]
          clear hQ hB hbn hbi hcb hBL hTV hval HTQ0 d1 b0
        case' true =>
          have t2 := (show _ = some (Value.int .i64 ((SY : Int) - (SK + TK))) from (HTZ.out.alloc (.cells #[] 180)).cell 2)
          have tf := (HTZ.out.alloc (.cells #[] 180)).frozen 2
          go_upto_region 14 with (fail)
          obtain ⟨Y, hY⟩ : ∃ Y, Y = (Z.alloc (.cells #[] 180)).setCell ⟨V.heap.size, 2, none⟩ (.int .i64 0) := ⟨_, rfl⟩
          rw [← hY]
          have hVY : Below V.heap.size V Y := by rw [hY]; exact (hVZ.alloc hVZ.size _).setCell (p := ⟨V.heap.size, 2, none⟩) (Nat.le_refl _) _
          have HBY := Lib.hid (show Y.ownsRow Z.heap.size 180 4 (.slice (some ⟨Z.heap.size, 0, none⟩) 0 0) 0 ([] : List (List Value)).flatten by
            rw [hY]
            exact ownsRow_setCell_below (World.ownsRow_lit (base := Z.heap.size) (e := 180) (size := 4) Z #[] 0 (Nat.le_refl _) (by unfold maxLen; omega) rfl) (by have := HTZ.out.lt; simpa using this) _)
          have HTY := Lib.hid (show Blk Y V.heap.size 180 #[.int .i64 OP, .int .i64 pl, .int .i64 0, .int .i64 ((SN : Int) - (SK + TK))] by rw [hY]; exact (HTZ.out.alloc _).set_ 2 _)
          have hzy : Z.heap.size ≤ Y.heap.size := by rw [hY]; simp
          clear hY t2 tf b0 d1
          have HLY := Lib.hid (HLV.out.below hVY)
          have x5 := (show _ = some (Value.int .i64 (y : Int)) from (HXV.out.below hVY hxl).cell 5)
          have b2 := (show _ = some (Value.slice (some ⟨ab, 0, none⟩) n n) from HLY.out.box.cell 2)
          have d4 := nRow_cell HLY.out.pl HS2.out
          obtain ⟨bv, hbv⟩ : ∃ v : Value, v = .slice (some ⟨Z.heap.size, 0, none⟩) 0 0 := ⟨_, rfl⟩
          rw [← hbv]
          have HBV := Lib.hid (show Y.ownsRow Z.heap.size 180 4 bv 0 ([] : List (List Value)).flatten by rw [hbv]; exact HBY.out)
          have hge : ∀ k, bv.ownBlock = some k → Z.heap.size ≤ k := fun k hk => (HBV.out.lt k hk).1
          have HGE := Lib.hid hge
          clear hbv HBY hge
          go_region_held3 (fun w' => w'.cell? ⟨w.heap.size, 5, none⟩ = some (.int .i64 (y : Int)) ∧ w'.cell? ⟨ab, y, none⟩ = some (.int .i64 (SY : Int)) ∧ w'.cell? ⟨L, 2, none⟩ = some (.slice (some ⟨ab, 0, none⟩) n n))
            (first | exact ⟨x5, d4, b2⟩ | exact ⟨q5, q4, q2⟩ | go_keep)
            ((refine step_app0g (w0 := Y.drew) rfl (.tmp 85) (.tmp 98) _ rfl Z.heap.size 180 Tryz.underlying118 info_Ins rfl (by omega) (by omega) bv 0 [] rfl (by exact HBV.out) rfl (by simp [Value.oneCell']) rfl (by decide) (by exact hzy) ?_; intro v9 w9 hown9 hg9 _; have hb9 : Below Z.heap.size Y w9 := (Below.refl Z.heap.size Y).drew.grown hg9 (by exact hzy) (fun k hk => HGE.out k hk); have hV9 := hVY.trans (hb9.mono hVZ.size); have q5 := (show _ = some (Value.int .i64 (y : Int)) from (HXV.out.below hV9 hxl).cell 5); have q2 := (show _ = some (Value.slice (some ⟨ab, 0, none⟩) n n) from (HLV.out.below hV9).box.cell 2); have q4 := nRow_cell (HLV.out.below hV9).pl HS2.out))
          obtain ⟨TV, hTV⟩ : ∃ t : Int, t = 0 := ⟨_, rfl⟩
          obtain ⟨BL, hBL⟩ : ∃ l : List In4, l = [⟨5, (SY : Int) - (SK + TK) - 1, 0, 0⟩] := ⟨_, rfl⟩
          have HTV := Lib.hid (show (if true = true then 0 else (SY : Int) - (SK + TK)) = TV by rw [hTV]; rfl)
          have wr1 : IntKind.i64.wrap ((SY : Int) - (SK + TK)) = SY - (SK + TK) := IntWalk.i64_in _ (by omega)
          have wr2 : IntKind.i64.wrap ((SY : Int) - (SK + TK) - 1) = SY - (SK + TK) - 1 := IntWalk.i64_in _ (by omega)
          have HBL := Lib.hid (show (if true = true then [⟨5, (SY : Int) - (SK + TK) - 1, 0, 0⟩] else ([] : List In4)) = BL by rw [hBL]; rfl)
          have hbl : BL.length = (true).toNat := by rw [hBL]; rfl
          have HTQ := Lib.hid (show Blk w9 V.heap.size 180 #[.int .i64 OP, .int .i64 pl, .int .i64 TV, .int .i64 ((SN : Int) - (SK + TK))] by rw [hTV]; exact HTY.out.below hb9 HTZ.out.lt)
          obtain ⟨B, cb, rfl, hB1, hB2⟩ := hown9.form (by omega)
          obtain ⟨bn, hbn⟩ : ∃ B : Nat, B = 1 := ⟨_, rfl⟩
          have HBQ := Lib.hid (show w9.ownsRow Z.heap.size 180 4 (.slice (some ⟨B, 0, none⟩) bn cb) bn (insR BL).flatten by
            rw [hbn, hBL]
            rw [wr1, wr2] at hown9
            simpa [insR, In4.cells] using hown9)
          have hzq : Z.heap.size ≤ w9.heap.size := by omega
          have hbn2 : bn = BL.length := by rw [hbn, hBL]; rfl
          have hval : Value.slice (some ⟨B, 0, none⟩) (0 + 1) cb = .slice (some ⟨B, 0, none⟩) bn cb := by rw [hbn]
          rw [hval]
          clear hbn hBL hTV hval hown9 hg9 hb9 q2 q4 q5 HGE HBV HTY HLY hzy hB1 hB2 x5 b2 d4 wr1 wr2
          obtain ⟨Q, hQ⟩ : ∃ Q, Q = w9 := ⟨_, rfl⟩
          rw [← hQ] at HTQ HBQ hzq hV9
          rw [← hQ]
          have hVQ := hV9
          clear hV9 hQ
          go_upto_region 15 with (fail)
        all_goals
          have HLQ := Lib.hid (HLV.out.below hVQ)
          have hvq := hVQ.size
          have hbq := below_then hbV hVQ
          have b1 := (show _ = some (Value.slice (some ⟨nb, 0, none⟩) n n) from HLQ.out.box.cell 1)
          have d2 := bRow_cell HLQ.out.no HNV.out
          have hbn1 : bn ≤ 1 := by rw [hbn2, hbl]; decide
          have HBN := Lib.hid hbn1
          have HBN2 := Lib.hid hbn2
          have HBT := Lib.hid (show (bn : Int) = _ from congrArg (Nat.cast : Nat → Int) (hbn2.trans hbl))
          clear hbn2 hbl
          cases nv
          case' false =>
            obtain ⟨NV, hNV⟩ : ∃ t : Int, t = (SN : Int) - (SK + TK) := ⟨_, rfl⟩
            have HNV2 := Lib.hid hNV
            rw [← hNV] at HTQ
            go_upto_region 18 with (fail)
            obtain ⟨CL, hCL⟩ : ∃ l : List In4, l = [] := ⟨_, rfl⟩
            have HNQ := Lib.hid (show (if false = true then (bn : Int) else (SN : Int) - (SK + TK)) = NV by rw [hNV]; rfl)
            have HCL := Lib.hid (show (if false = true then [⟨5, (SN : Int) - (SK + TK) - (bn : Int) - 1, 0, 0⟩] else ([] : List In4)) = CL by rw [hCL]; rfl)
            obtain ⟨R, hR⟩ : ∃ Y, Y = Q := ⟨_, rfl⟩
            rw [← hR]
            have hVR : Below V.heap.size V R := by rw [hR]; exact hVQ
            have HTR := Lib.hid (show Blk R V.heap.size 180 #[.int .i64 OP, .int .i64 pl, .int .i64 TV, .int .i64 NV] by rw [hR]; exact HTQ.out)
            have hzr : Z.heap.size ≤ R.heap.size := by rw [hR]; exact hzq
            obtain ⟨D, hD⟩ : ∃ t : Nat, t = B := ⟨_, rfl⟩
            obtain ⟨dn, hdn⟩ : ∃ t : Nat, t = bn := ⟨_, rfl⟩
            obtain ⟨cd, hcd⟩ : ∃ t : Nat, t = cb := ⟨_, rfl⟩
            have HDR := Lib.hid (show R.ownsRow Z.heap.size 180 4 (.slice (some ⟨D, 0, none⟩) dn cd) dn (insR (BL ++ CL)).flatten by rw [hR, hCL, hD, hdn, hcd, List.append_nil]; exact HBQ.out)
            have hdn2 : dn = (BL ++ CL).length := by rw [hdn, hCL, List.append_nil]; exact HBN2.out
            have hdn3 : dn ≤ 2 := by omega
            have hval : Value.slice (some ⟨B, 0, none⟩) bn cb = .slice (some ⟨D, 0, none⟩) dn cd := by rw [hD, hdn, hcd]
            rw [hval]
            clear hval hR hD hdn hcd hNV hCL HNV2
          case' true =>
            have t3 := (show _ = some (Value.int .i64 ((SN : Int) - (SK + TK))) from HTQ.out.cell 3)
            have tf := HTQ.out.frozen 3
            go_upto_region 17 with (fail)
            obtain ⟨Y2, hY2⟩ : ∃ Y, Y = Q.setCell ⟨V.heap.size, 3, none⟩ (.int .i64 (bn : Int)) := ⟨_, rfl⟩
            rw [← hY2]
            have hVY2 : Below V.heap.size V Y2 := by rw [hY2]; exact hVQ.setCell (p := ⟨V.heap.size, 3, none⟩) (Nat.le_refl _) _
            have HTY2 := Lib.hid (show Blk Y2 V.heap.size 180 #[.int .i64 OP, .int .i64 pl, .int .i64 TV, .int .i64 (bn : Int)] by rw [hY2]; exact HTQ.out.set_ 3 _)
            have HBY2 := Lib.hid (show Y2.ownsRow Z.heap.size 180 4 (.slice (some ⟨B, 0, none⟩) bn cb) bn (insR BL).flatten by rw [hY2]; exact ownsRow_setCell_below HBQ.out (by exact HTZ.out.lt) _)
            have hzy2 : Z.heap.size ≤ Y2.heap.size := by rw [hY2]; simpa using hzq
            clear hY2 t3 tf b1 d2
            have HLY2 := Lib.hid (HLV.out.below hVY2)
            have x6 := (show _ = some (Value.int .i64 (nn : Int)) from (HXV.out.below hVY2 hxl).cell 6)
            have b2 := (show _ = some (Value.slice (some ⟨ab, 0, none⟩) n n) from HLY2.out.box.cell 2)
            have d5 := nRow_cell HLY2.out.pl HS3.out
            have hge : ∀ k, (Value.slice (some ⟨B, 0, none⟩) bn cb).ownBlock = some k → Z.heap.size ≤ k := fun k hk => (HBY2.out.lt k hk).1
            have HGE := Lib.hid hge
            clear hge
            go_region_held3 (fun w' => w'.cell? ⟨w.heap.size, 6, none⟩ = some (.int .i64 (nn : Int)) ∧ w'.cell? ⟨ab, nn, none⟩ = some (.int .i64 (SN : Int)) ∧ w'.cell? ⟨L, 2, none⟩ = some (.slice (some ⟨ab, 0, none⟩) n n))
              (first | exact ⟨x6, d5, b2⟩ | exact ⟨q5, q4, q2⟩ | go_keep)
              ((refine step_app0g (w0 := Y2.drew) rfl (.tmp 110) (.tmp 126) _ rfl Z.heap.size 180 Tryz.underlying118 info_Ins rfl (by omega) (by omega) (.slice (some ⟨B, 0, none⟩) bn cb) bn (insR BL) rfl (by exact HBY2.out) rfl (by simp [Value.oneCell']) rfl (by have := HBN.out; omega) (by exact hzy2) ?_; intro v8 w8 hown8 hg8 _; have hb8 : Below Z.heap.size Y2 w8 := (Below.refl Z.heap.size Y2).drew.grown hg8 (by exact hzy2) (fun k hk => HGE.out k hk); have hV8 := hVY2.trans (hb8.mono hVZ.size); have q5 := (show _ = some (Value.int .i64 (nn : Int)) from (HXV.out.below hV8 hxl).cell 6); have q2 := (show _ = some (Value.slice (some ⟨ab, 0, none⟩) n n) from (HLV.out.below hV8).box.cell 2); have q4 := nRow_cell (HLV.out.below hV8).pl HS3.out))
            obtain ⟨NV, hNV⟩ : ∃ t : Int, t = (bn : Int) := ⟨_, rfl⟩
            obtain ⟨CL, hCL⟩ : ∃ l : List In4, l = [⟨5, (SN : Int) - (SK + TK) - (bn : Int) - 1, 0, 0⟩] := ⟨_, rfl⟩
            have wr1 : IntKind.i64.wrap ((SN : Int) - (SK + TK)) = SN - (SK + TK) := IntWalk.i64_in _ (by omega)
            have wr2 : IntKind.i64.wrap ((SN : Int) - (SK + TK) - (bn : Int)) = SN - (SK + TK) - (bn : Int) := IntWalk.i64_in _ (by omega)
            have wr3 : IntKind.i64.wrap ((SN : Int) - (SK + TK) - (bn : Int) - 1) = SN - (SK + TK) - (bn : Int) - 1 := IntWalk.i64_in _ (by omega)
            have HNQ := Lib.hid (show (if true = true then (bn : Int) else (SN : Int) - (SK + TK)) = NV by rw [hNV]; rfl)
            have HCL := Lib.hid (show (if true = true then [⟨5, (SN : Int) - (SK + TK) - (bn : Int) - 1, 0, 0⟩] else ([] : List In4)) = CL by rw [hCL]; rfl)
            have HTR0 := Lib.hid (show Blk w8 V.heap.size 180 #[.int .i64 OP, .int .i64 pl, .int .i64 TV, .int .i64 NV] by rw [hNV]; exact HTY2.out.below hb8 HTZ.out.lt)
            obtain ⟨D, cd, rfl, hD1, hD2⟩ := hown8.form (by omega)
            obtain ⟨dn, hdn⟩ : ∃ B : Nat, B = bn + 1 := ⟨_, rfl⟩
            have hDR0 : w8.ownsRow Z.heap.size 180 4 (.slice (some ⟨D, 0, none⟩) dn cd) dn (insR (BL ++ CL)).flatten := by
              rw [hdn, hCL]
              rw [wr1, wr2, wr3] at hown8
              simpa [insR, In4.cells] using hown8
            have hzr0 : Z.heap.size ≤ w8.heap.size := by omega
            have hdn2 : dn = (BL ++ CL).length := by rw [hdn, hCL, List.length_append, ← HBN2.out]; rfl
            have hdn3 : dn ≤ 2 := by omega
            have hval : Value.slice (some ⟨D, 0, none⟩) (bn + 1) cd = .slice (some ⟨D, 0, none⟩) dn cd := by rw [hdn]
            rw [hval]
            clear hdn hCL hNV hval hown8 hg8 hb8 q2 q4 q5 HGE HBY2 HTY2 HLY2 hzy2 hD1 hD2 x6 b2 d5 wr1 wr2 wr3
            obtain ⟨R, hR⟩ : ∃ Q, Q = w8 := ⟨_, rfl⟩
            rw [← hR] at HTR0 hDR0 hzr0 hV8
            rw [← hR]
            have hVR := hV8
            have HTR := HTR0
            have HDR := Lib.hid hDR0
            have hzr := hzr0
            clear hV8 hR HTR0 hDR0 hzr0
            go_upto_region 18 with (fail)
          all_goals
            have e0 := (show _ = some (Value.int .i64 OP) from HTR.out.cell 0)
            have e1 := (show _ = some (Value.int .i64 pl) from HTR.out.cell 1)
            have e2 := (show _ = some (Value.int .i64 TV) from HTR.out.cell 2)
            have e3 := (show _ = some (Value.int .i64 NV) from HTR.out.cell 3)
            have HOR := Lib.hid (own_below HOV.out hVR)
            have hbR := below_then hbV hVR
            have hrz := hbR.size
            have hzv := hVZ.size
            have HDN := Lib.hid hdn2
            clear hdn2
            obtain ⟨i0, hi0, hz0, hz1, hz2⟩ := info_parts info_Ins
            go_wp2_with (at_builtin; first
              | (((refine wpList_app1g (w0 := R) rfl (.tmp 128) (.tmp 130) _ rfl w.heap.size 180 Tryz.underlying118 info_Ins rfl (by omega) (by omega) (.slice (some ⟨w.heap.size + 1, 0, none⟩) 1 1) 1 (insR [⟨1, pf, 0, 0⟩]) rfl (by exact HOR.out) rfl (by simp [Value.oneCell']) rfl (by simp) (by omega) ?_)); intro v5 w5 hown5 hg5 _; have hb5 := (Below.refl w.heap.size R).grown hg5 hrz (fun k hk => (HOR.out.lt k hk).1); have hd5 := HDR.out.kept hg5 (own_apart_l HOV.out HDR.out hzv); clear hg5)
              | (((refine wpList_app1g (w0 := R) rfl (.tmp 128) (.tmp 130) _ rfl w.heap.size 180 Tryz.underlying118 info_Ins rfl (by omega) (by omega) (.slice (some ⟨g5, 0, none⟩) 2 cap5) 2 (insR [⟨1, pf, 0, 0⟩, ⟨2, pm, 0, 0⟩]) rfl (by exact HOR.out) rfl (by simp [Value.oneCell']) rfl (by simp) (by omega) ?_)); intro v5 w5 hown5 hg5 _; have hb5 := (Below.refl w.heap.size R).grown hg5 hrz (fun k hk => (HOR.out.lt k hk).1); have hd5 := HDR.out.kept hg5 (own_apart_l HOV.out HDR.out hzv); clear hg5)
              | ((go_must (refine wpList_append_own _ rfl (.tmp 131) (.tmp 132) _ rfl w.heap.size 180 i0 _ 4 32 Tryz.underlying118 hi0 hz0 hz1 hz2 rfl (by omega) v5 _ _ rfl hown5 ⟨D, 0, none⟩ dn cd (insR (BL ++ CL)).flatten rfl hd5.1 (hd5.cells rfl) (ins_one _) (by unfold maxLen; omega) (by omega) (by have := hb5.size; omega) ?_)); intro v7 w7 hown7 hg7 _; have hb7 := hb5.grown hg7 (Nat.le_trans hrz hb5.size) (fun k hk => (hown5.lt k hk).1)))
            go_ret
            refine ⟨v7, rfl, own_eq hown7 ?_ ?_, hbR.trans hb7⟩
            · rw [HP.out, HM.out, HPO.out, ← HBT.out, HTV.out, HNQ.out, HBL.out, HCL.out, HDN.out]
              simp
              try omega
            · rw [HP.out, HM.out, HPO.out, ← HBT.out, HTV.out, HNQ.out, HBL.out, HCL.out]
              simp [insR, In4.cells]
end Go.Proofs.YtcomdkmglihdbaaGreatDoor
