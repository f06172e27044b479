/- Joined texts: Lay2 Lay3. -/
import Derived.Test.YtdjgicapbpoigaaGreatDoorPts
import Derived.Deep.QuietTactic
import Derived.BigQuiet
import Derived.IntWalk
import Derived.Test.YtdjgicapbpoigaaGreatDoorKit
import Derived.StillTailTactics
import Derived.Deep.CutBlock
import Derived.Deep.RegionHeld3
-- How the points of a graph are laid: l5Lay.place.
namespace Go.Proofs.YtdjgicapbpoigaaGreatDoor
open Go.RowKit
set_option linter.unusedSimpArgs false
set_option linter.unusedVariables false

theorem look_ways {g : List Pt} (hg : graphOk g) {k : Nat} {p : Pt} (hp : g[k]? = some p) (h0 : p.op ≠ 0) : ∃ y n : Nat, p.yes = y ∧ p.no = n ∧ y < k ∧ n < k := by
 have := hg.2 k p hp
 unfold ptOk at this
 refine ⟨p.yes.toNat, p.no.toNat, ?_, ?_, ?_, ?_⟩ <;> omega
theorem drewN_below (w : World) (m : Nat) : Below w.heap.size w (w.drewN m) := ⟨rfl, rfl, rfl, Nat.le_refl _, fun _ _ => rfl⟩
def Starts (g : List Pt) (ys ns : List Bool) (ps : List Nat) : Prop := ∀ j : Nat, j < g.length → ps[j]? = some (stAt g ys ns j)

set_option maxRecDepth 100000 in
set_option maxHeartbeats 16000000 in
theorem place_any (w0 : World) (A : Option Addr) (n c L yb nb ab : Nat) (g : List Pt) (ys ns : List Bool) (ps : List Nat) (w : World) (hA : SlA w0 7 A n c (g.map Pt.cells)) (hg : graphOk g) (hw : Below w0.heap.size w0 w) (hL : Lay w L yb nb ab n ys ns ps) (hyb : w0.heap.size ≤ yb) (hnb : w0.heap.size ≤ nb) (hab : w0.heap.size ≤ ab) :
   Calls Tryz.prog 103 #[.pointer (some ⟨L, 0, none⟩), .slice A n c] w fun e w' => ∃ (ok : Bool) (ps' : List Nat), e = .returned (.bool ok) ∧ Lay w' L yb nb ab n (nextY g ys ns) (nextN g ys ns) ps' ∧ Starts g ys ns ps' ∧ (ok = true ↔ (nextY g ys ns = ys ∧ nextN g ys ns = ns)) ∧ Below w0.heap.size w0 w' := by
 have hl : g.length = n := by have := hA.len; simpa using this
 have hn120 : n ≤ 120 := by rw [← hl]; exact hg.1.2
 have hc := hA.cap
 have hm := hA.max
 unfold maxLen at hm
 have hbs := hw.size
 have hts : ∀ k, tailSum (szAt g ys ns) n k ≤ 600 := fun k => Nat.le_trans (tailSum_le (szAt_le g ys ns) n _ k rfl) (by omega)
 have HL := Lib.hid hL; have HG := Lib.hid hg; have HN := Lib.hid hl; have HA := Lib.hid hA; have HTS := Lib.hid hts; clear hL hg hl hA hts
 go_enter Tryz.func103, Tryz.ntmps103
 go_wp2
 go_loopw [5, 6] (fun m i wr => ∃ (k : Nat) (z : Int) (ps' : List Nat), k ≤ n ∧ z + 1 = k ∧ i = .int .i64 z ∧ m = .int .i64 (tailSum (szAt g ys ns) n k : Nat) ∧ Lay wr L yb nb ab n ys ns ps' ∧ (∀ j, k ≤ j → j < n → ps'[j]? = some (stAt g ys ns j)) ∧ Below w0.heap.size w0 wr) (fun _ i _ => (intOf i + 1).toNat)
 case atStart => exact ⟨n, (n : Int) - 1, ps, Nat.le_refl _, by omega, by go_num, by rw [tailSum_end]; rfl, HL.out, fun j h1 h2 => absurd h1 (by omega), hw⟩
 case round =>
   obtain ⟨k, z, ps', hk, hkz, rfl, rfl, hL, hst, hbw⟩ := hrel
   have hbz := hbw.size
   have b2 := (show _ = some (Value.slice (some ⟨ab, 0, none⟩) n n) from hL.box.cell 2)
   by_cases hge : 0 ≤ z
   · obtain ⟨m, rfl⟩ : ∃ m : Nat, z = m := ⟨z.toNat, by omega⟩
     obtain rfl : k = m + 1 := by omega
     have hmn : m < n := by omega
     have hmni : (m : Int) < n := by omega
     obtain ⟨a0, ha0⟩ := nRow_some hL.al hmn
     have d0 := nRow_cell hL.pl ha0
     have f0 := hL.pl.frozen m
     have hL2 := hL.set_pl m (tailSum (szAt g ys ns) n (m + 1))
     have hb2 : Below w0.heap.size w0 _ := hbw.setCell (p := ⟨ab, m, none⟩) hab (.int .i64 ((tailSum (szAt g ys ns) n (m + 1) : Nat) : Int))
     have h600 := HTS.out (m + 1)
     have hsz5 := szAt_le g ys ns m
     have HS := Lib.hid (tailSum_step (f := szAt g ys ns) hmn); have HL2 := Lib.hid hL2; have HST := Lib.hid hst; have HAL := Lib.hid hL.al; clear hL hL2 hst ha0
     generalize hT : tailSum (szAt g ys ns) n (m + 1) = T at *
     go_wp2_with fail
     refine (l5Size_any A n c L yb nb ab m g ys ns _ _ (HA.out.below hb2) (by exact HL2.out) hmn (by omega)).mono ?_
     rintro e w2 ⟨rfl, rfl⟩
     go_wp2
     refine ⟨⟨m, (m : Int) - 1, ps'.set m T, by omega, by omega, by go_num, ?_, HL2.out, fun j h1 h2 => ?_, hb2⟩, by simp [intOf]⟩
     · rw [HS.out]; go_num
     · by_cases e : m = j
       · subst e
         rw [List.getElem?_set_self (by rw [HAL.out]; exact hmn)]
         unfold stAt
         rw [HN.out, hT]
       · rw [List.getElem?_set_ne e]
         exact HST.out j (by omega) h2
   · obtain rfl : k = 0 := by omega
     have hst' : Starts g ys ns ps' := fun j hj => hst j (Nat.zero_le _) (by rw [← HN.out]; exact hj)
     have HST := Lib.hid hst'; have HLa := Lib.hid hL; clear HL hst hst' hL
     go_wp2
     go_loopw [7, 8] (fun okv i wr => ∃ (k : Nat) (okb : Bool), k ≤ n ∧ i = .int .i64 k ∧ okv = .bool okb ∧ Lay wr L yb nb ab n (stepF (farY g ys ns) ys k) (stepF (farN g ys ns) ns k) ps' ∧ ((okb = true ∧ nearN (stepF (farY g ys ns) ys k) + nearN (stepF (farN g ys ns) ns k) = nearN ys + nearN ns) ∨ (okb = false ∧ nearN (stepF (farY g ys ns) ys k) + nearN (stepF (farN g ys ns) ns k) < nearN ys + nearN ns)) ∧ Below w0.heap.size w0 wr) (fun _ i _ => n - (intOf i).toNat)
     case atStart => exact ⟨0, true, Nat.zero_le _, rfl, rfl, by rw [stepF_zero, stepF_zero]; exact HLa.out, .inl ⟨rfl, by rw [stepF_zero, stepF_zero]⟩, hbw⟩
     case round =>
       obtain ⟨k, okb, hk, rfl, rfl, hL, hsum, hbw2⟩ := hrel
       clear hbw hge hkz hbz b2
       by_cases hkn : k < n
       · have hkni : (k : Int) < n := by omega
         obtain ⟨b, off, p, rfl, hab', hgp, hcell⟩ := pts_get HA.out hkn
         obtain ⟨c0, c1, c2, c3, c4, c5, c6⟩ := hcell _ _ hbw2 hab'
         obtain ⟨yv, hyv⟩ := bRow_some (rs := ys) (n := n) (by have := hL.yl; rwa [stepF_len] at this) hkn
         obtain ⟨nv, hnv⟩ := bRow_some (rs := ns) (n := n) (by have := hL.nl; rwa [stepF_len] at this) hkn
         have d1 := bRow_cell hL.yes (stepF_at (P := farY g ys ns) hyv)
         have d2 := bRow_cell hL.no (stepF_at (P := farN g ys ns) hnv)
         have b0 := (show _ = some (Value.slice (some ⟨yb, 0, none⟩) n n) from hL.box.cell 0)
         have b1 := (show _ = some (Value.slice (some ⟨nb, 0, none⟩) n n) from hL.box.cell 1)
         have b2 := (show _ = some (Value.slice (some ⟨ab, 0, none⟩) n n) from hL.box.cell 2)
         have d3 := nRow_cell hL.pl (HST.out k (by rw [HN.out]; exact hkn))
         have HC := Lib.hid hcell
         clear hcell c0 c1 c2 c4
         by_cases h0 : p.op = 0
         · have hd : (p.op == 0) = true := by simp [h0]
           have HE1 := Lib.hid (stepF_same (P := farY g ys ns) hyv (by simp [farY, hgp, h0])); have HE2 := Lib.hid (stepF_same (P := farN g ys ns) hnv (by simp [farN, hgp, h0]))
           have HLx := Lib.hid hL; have HSx := Lib.hid hsum; clear hL hsum hgp hyv hnv d1 d2 d3 b0 b1 b2
           rw [h0] at c3
           clear h0 hd
           go_wp2
           exact ⟨⟨k + 1, okb, by omega, by go_num, rfl, by rw [HE1.out, HE2.out]; exact HLx.out, by rw [HE1.out, HE2.out]; exact HSx.out, hbw2⟩, by simp [intOf]; omega⟩
         · have hd : (p.op == 0) = false := by simp [h0]
           obtain ⟨y, nn, hy, hnn, hyk, hnk⟩ := look_ways HG.out hgp h0
           rw [hy] at c5
           rw [hnn] at c6
           have d4 := nRow_cell hL.pl (HST.out y (by rw [HN.out]; omega))
           have d5 := nRow_cell hL.pl (HST.out nn (by rw [HN.out]; omega))
           have HFY := Lib.hid (show farY g ys ns k = decide ((stAt g ys ns y : Int) - (stAt g ys ns k + testAt g k) > 6) by unfold farY; rw [hgp]; simp [h0, hy])
           have HFN := Lib.hid (show farN g ys ns k = decide ((stAt g ys ns nn : Int) - (stAt g ys ns k + testAt g k) > 6) by unfold farN; rw [hgp]; simp [h0, hnn])
           have s1 : stAt g ys ns k ≤ 600 := Nat.le_trans (stAt_le g ys ns k) (by rw [HN.out]; omega)
           have s2 : stAt g ys ns y ≤ 600 := Nat.le_trans (stAt_le g ys ns y) (by rw [HN.out]; omega)
           have s3 : stAt g ys ns nn ≤ 600 := Nat.le_trans (stAt_le g ys ns nn) (by rw [HN.out]; omega)
           have s4 : testAt g k ≤ 3 := by unfold testAt; split <;> (try split) <;> omega
           have hyi : (y : Int) < n := by omega
           have hni : (nn : Int) < n := by omega
           have hst4 := Lib.hid (HST.out y (by rw [HN.out]; omega)); have hst5 := Lib.hid (HST.out nn (by rw [HN.out]; omega))
           have HLx := Lib.hid hL; have HSx := Lib.hid hsum; have HYV := Lib.hid hyv; have HNV := Lib.hid hnv; have HSA := Lib.hid (fun m : Nat => (HA.out.below hbw2).below (drewN_below _ m)); have HK1 := Lib.hid (show n ≤ 1000 by omega)
           clear hL hsum hyv hnv hgp h0
           generalize stAt g ys ns k = SK at *
           generalize stAt g ys ns y = SY at *
           generalize stAt g ys ns nn = SN at *
           go_wp2
           go_quiet ((go_at_call 139; refine Calls.quiet_of_same ((l5Test_any _ n c k g _ (HSA.out _) hkn HK1.out).mono fun _ _ h => ⟨h.1, h.2.symm⟩)))
           generalize testAt g k = TK at *
           obtain ⟨W, hW⟩ : ∃ W, W = wr.drewN nq := ⟨_, rfl⟩
           rw [← hW]
           have HLW := Lib.hid (show Lay W L yb nb ab n (stepF (farY g ys ns) ys k) (stepF (farN g ys ns) ns k) ps' by rw [hW]; exact HLx.out.below (drewN_below _ nq))
           have hbW : Below w0.heap.size w0 W := by rw [hW]; exact below_step hbw2 hbw2.size (drewN_below _ nq)
           clear hW HLx HSA d1 d2 d3 d4 d5 b0 b1 b2 c3 c5 c6 hbw2 hd
           obtain ⟨-, -, -, -, -, c5, c6⟩ := HC.out W _ hbW hab'
           rw [hy] at c5
           rw [hnn] at c6
           have d1 := bRow_cell HLW.out.yes (stepF_at (P := farY g ys ns) HYV.out)
           have f1 := HLW.out.yes.frozen k
           have d4 := nRow_cell HLW.out.pl hst4.out
           have b0 := (show _ = some (Value.slice (some ⟨yb, 0, none⟩) n n) from HLW.out.box.cell 0)
           have b2 := (show _ = some (Value.slice (some ⟨ab, 0, none⟩) n n) from HLW.out.box.cell 2)
           have hw1 : IntKind.i64.wrap ((SK : Int) + TK) = SK + TK := IntWalk.i64_in _ (by omega)
           have hw2 : IntKind.i64.wrap ((SY : Int) - (SK + TK)) = SY - (SK + TK) := IntWalk.i64_in _ (by omega)
           have hw3 : IntKind.i64.wrap ((SN : Int) - (SK + TK)) = SN - (SK + TK) := IntWalk.i64_in _ (by omega)
           have hyc : yv = true ∨ (yv = false ∧ ¬ ((SY : Int) - (SK + TK) > 6)) ∨ (yv = false ∧ (SY : Int) - (SK + TK) > 6) := by
             cases yv
             · by_cases h : (SY : Int) - (SK + TK) > 6
               · exact .inr (.inr ⟨rfl, h⟩)
               · exact .inr (.inl ⟨rfl, h⟩)
             · exact .inl rfl
           have hnc : nv = true ∨ (nv = false ∧ ¬ ((SN : Int) - (SK + TK) > 6)) ∨ (nv = false ∧ (SN : Int) - (SK + TK) > 6) := by
             cases nv
             · by_cases h : (SN : Int) - (SK + TK) > 6
               · exact .inr (.inr ⟨rfl, h⟩)
               · exact .inr (.inl ⟨rfl, h⟩)
             · exact .inl rfl
           have HNC := Lib.hid hnc; clear hnc
           rcases hyc with rfl | ⟨rfl, hfy⟩ | ⟨rfl, hfy⟩
           case' inl =>
             have e1 : stepF (farY g ys ns) ys (k + 1) = stepF (farY g ys ns) ys k := stepF_same HYV.out (by simp)
             have HL1 := Lib.hid (show Lay W L yb nb ab n (stepF (farY g ys ns) ys (k + 1)) (stepF (farN g ys ns) ns k) ps' by rw [e1]; exact HLW.out)
             have HS1 := HSx.out
             rw [← e1] at HS1
             have HS2 := Lib.hid HS1
             clear HS1 e1 f1
             go_wp2
             go_quiet (fail)
             obtain ⟨W2, hW2⟩ : ∃ W2, W2 = W.drewN nq := ⟨_, rfl⟩
             go_wp2
             rw [← hW2]
             have HL2 := Lib.hid (show Lay W2 L yb nb ab n (stepF (farY g ys ns) ys (k + 1)) (stepF (farN g ys ns) ns k) ps' by rw [hW2]; exact HL1.out.below (drewN_below _ nq))
             have hb2 : Below w0.heap.size w0 W2 := by rw [hW2]; exact below_step hbW hbW.size (drewN_below _ nq)
             clear hW2 HL1
           case' inr.inl =>
             have hdf : decide ((SY : Int) - (SK + TK) > 6) = false := by simp; omega
             have e1 : stepF (farY g ys ns) ys (k + 1) = stepF (farY g ys ns) ys k := stepF_same HYV.out (by rw [HFY.out, hdf]; rfl)
             have HL1 := Lib.hid (show Lay W L yb nb ab n (stepF (farY g ys ns) ys (k + 1)) (stepF (farN g ys ns) ns k) ps' by rw [e1]; exact HLW.out)
             have HS1 := HSx.out
             rw [← e1] at HS1
             have HS2 := Lib.hid HS1
             clear HS1 e1 f1
             go_wp2
             go_quiet (fail)
             obtain ⟨W2, hW2⟩ : ∃ W2, W2 = W.drewN nq := ⟨_, rfl⟩
             go_wp2
             rw [← hW2]
             have HL2 := Lib.hid (show Lay W2 L yb nb ab n (stepF (farY g ys ns) ys (k + 1)) (stepF (farN g ys ns) ns k) ps' by rw [hW2]; exact HL1.out.below (drewN_below _ nq))
             have hb2 : Below w0.heap.size w0 W2 := by rw [hW2]; exact below_step hbW hbW.size (drewN_below _ nq)
             clear hW2 HL1
           case' inr.inr =>
             have hdf : decide ((SY : Int) - (SK + TK) > 6) = true := by simp; omega
             have e1 : stepF (farY g ys ns) ys (k + 1) = (stepF (farY g ys ns) ys k).set k true := by rw [stepF_set HYV.out, HFY.out, hdf]; rfl
             have hnr := nearN_set (stepF_at (P := farY g ys ns) HYV.out)
             rw [← e1] at hnr
             have HS2 := Lib.hid (show (false = true ∧ nearN (stepF (farY g ys ns) ys (k + 1)) + nearN (stepF (farN g ys ns) ns k) = nearN ys + nearN ns) ∨ (false = false ∧ nearN (stepF (farY g ys ns) ys (k + 1)) + nearN (stepF (farN g ys ns) ns k) < nearN ys + nearN ns) from .inr ⟨rfl, by rcases HSx.out with ⟨_, h⟩ | ⟨_, h⟩ <;> omega⟩)
             have HE1 := Lib.hid e1
             clear hnr e1
             go_wp2
             go_quiet (fail)
             have ff : (W.drewN nq).frozen? ⟨yb, k, none⟩ = false := f1
             obtain ⟨W2, hW2⟩ : ∃ W2, W2 = (W.drewN nq).setCell ⟨yb, k, none⟩ (.bool true) := ⟨_, rfl⟩
             go_wp2
             rw [← hW2]
             have HL2 := Lib.hid (show Lay W2 L yb nb ab n (stepF (farY g ys ns) ys (k + 1)) (stepF (farN g ys ns) ns k) ps' by rw [hW2, HE1.out]; exact (HLW.out.below (drewN_below _ nq)).set_yes k true)
             have hb2 : Below w0.heap.size w0 W2 := by rw [hW2]; exact (below_step hbW hbW.size (drewN_below _ nq)).setCell (p := ⟨yb, k, none⟩) hyb _
             clear hW2 ff HE1
           all_goals
             clear c5 c6 d1 d4 b0 b2 hw2 hbW HLW HSx
             obtain ⟨-, -, -, -, -, -, c6⟩ := HC.out W2 _ hb2 hab'
             rw [hnn] at c6
             have d2 := bRow_cell HL2.out.no (stepF_at (P := farN g ys ns) HNV.out)
             have f2 := HL2.out.no.frozen k
             have d5 := nRow_cell HL2.out.pl hst5.out
             have b1 := (show _ = some (Value.slice (some ⟨nb, 0, none⟩) n n) from HL2.out.box.cell 1)
             have b2 := (show _ = some (Value.slice (some ⟨ab, 0, none⟩) n n) from HL2.out.box.cell 2)
             rcases HNC.out with rfl | ⟨rfl, hfn⟩ | ⟨rfl, hfn⟩
             · have e2 : stepF (farN g ys ns) ns (k + 1) = stepF (farN g ys ns) ns k := stepF_same HNV.out (by simp)
               have HE2 := Lib.hid e2
               clear e2 f2
               go_wp2
               go_quiet (fail)
               go_wp2
               exact ⟨⟨k + 1, _, by omega, by go_num, rfl, by rw [HE2.out]; exact HL2.out.below (drewN_below _ nq), by rw [HE2.out]; first | exact HS2.out | (have h := HS2.out; simpa using h), below_step hb2 hb2.size (drewN_below _ nq)⟩, by simp [intOf]; omega⟩
             · have hdn : decide ((SN : Int) - (SK + TK) > 6) = false := by simp; omega
               have e2 : stepF (farN g ys ns) ns (k + 1) = stepF (farN g ys ns) ns k := stepF_same HNV.out (by rw [HFN.out, hdn]; rfl)
               have HE2 := Lib.hid e2
               clear e2 f2
               go_wp2
               go_quiet (fail)
               go_wp2
               exact ⟨⟨k + 1, _, by omega, by go_num, rfl, by rw [HE2.out]; exact HL2.out.below (drewN_below _ nq), by rw [HE2.out]; first | exact HS2.out | (have h := HS2.out; simpa using h), below_step hb2 hb2.size (drewN_below _ nq)⟩, by simp [intOf]; omega⟩
             · have hdn : decide ((SN : Int) - (SK + TK) > 6) = true := by simp; omega
               have e2 : stepF (farN g ys ns) ns (k + 1) = (stepF (farN g ys ns) ns k).set k true := by rw [stepF_set HNV.out, HFN.out, hdn]; rfl
               have hnr := nearN_set (stepF_at (P := farN g ys ns) HNV.out)
               rw [← e2] at hnr
               have HR := Lib.hid hnr; have HE2 := Lib.hid e2
               clear hnr e2
               go_wp2
               go_quiet (fail)
               have ff : (W2.drewN nq).frozen? ⟨nb, k, none⟩ = false := f2
               go_wp2
               exact ⟨⟨k + 1, _, by omega, by go_num, rfl, by rw [HE2.out]; exact (HL2.out.below (drewN_below _ nq)).set_no k true, .inr ⟨rfl, by rcases HS2.out with ⟨_, h⟩ | ⟨_, h⟩ <;> (have := HR.out; omega)⟩, (below_step hb2 hb2.size (drewN_below _ nq)).setCell (p := ⟨nb, k, none⟩) hnb _⟩, by simp [intOf]; omega⟩
       · obtain rfl : k = n := by omega
         have HLx := Lib.hid hL; have HSx := Lib.hid hsum; clear hL hsum
         go_wp2
         go_ret
         refine ⟨okb, ps', rfl, by unfold nextY nextN; rw [HN.out]; exact HLx.out, HST.out, ?_, hbw2⟩
         unfold nextY nextN
         rw [HN.out]
         have n1 := stepF_near (farY g ys ns) ys k
         have n2 := stepF_near (farN g ys ns) ns k
         constructor
         · intro hok
           rcases HSx.out with ⟨_, h⟩ | ⟨h, _⟩
           · refine ⟨Decidable.byContradiction fun hne => ?_, Decidable.byContradiction fun hne => ?_⟩
             · have := n1.2 hne; omega
             · have := n2.2 hne; omega
           · rw [hok] at h; cases h
         · rintro ⟨h1, h2⟩
           rcases HSx.out with ⟨h, _⟩ | ⟨_, h⟩
           · exact h
           · rw [h1, h2] at h; omega
end Go.Proofs.YtdjgicapbpoigaaGreatDoor

-- How the points of a graph are laid: l5Point: a point's places.
namespace Go.Proofs.YtdjgicapbpoigaaGreatDoor
open Go.RowKit
set_option linter.unusedSimpArgs false
set_option linter.unusedVariables false

theorem ins_one (g : List In4) : ∀ u ∈ (insR g).flatten, u.oneCell' = true := by
 intro u hu
 simp only [insR, List.mem_flatten, List.mem_map] at hu
 obtain ⟨r, ⟨p, _, rfl⟩, hu⟩ := hu
 simp [In4.cells] at hu
 rcases hu with rfl | rfl | rfl | rfl <;> rfl
theorem own_apart_l {V R : World} {b1 b2 s1 s2 n1 n2 : Nat} {e1 e2 : TypeId} {v1 v2 : Value} {x1 x2 : List Value} (h1 : V.ownsRow b1 e1 s1 v1 n1 x1) (h2 : R.ownsRow b2 e2 s2 v2 n2 x2) (hb : V.heap.size ≤ b2) : v2.ownBlock = none ∨ v2.ownBlock ≠ v1.ownBlock := by
 cases h : v2.ownBlock with
 | none => exact .inl rfl
 | some k =>
   refine .inr fun e => ?_
   have a := (h2.lt k h).1
   have b := (h1.lt k e.symm).2
   omega
theorem own_eq {w : World} {b s n n' : Nat} {e : TypeId} {v : Value} {xs xs' : List Value} (h : w.ownsRow b e s v n xs) (hn : n = n') (hx : xs = xs') : w.ownsRow b e s v n' xs' := by subst hn; subst hx; exact h

theorem Starts.get {g : List Pt} {ys ns : List Bool} {ps : List Nat} (h : Starts g ys ns ps) {j n : Nat} (hl : g.length = n) (hj : j < n) : ps[j]? = some (stAt g ys ns j) := h j (by omega)

set_option maxRecDepth 100000 in
set_option maxHeartbeats 16000000 in
theorem l5Point_any (A : Option Addr) (n c L yb nb ab i : Nat) (g : List Pt) (ys ns : List Bool) (ps : List Nat) (w : World) (hA : SlA w 7 A n c (g.map Pt.cells)) (hg : graphOk g) (hL : Lay w L yb nb ab n ys ns ps) (hst : Starts g ys ns ps) (hi : i < n) :
   Calls Tryz.prog 104 #[.slice A n c, .pointer (some ⟨L, 0, none⟩), .int .i64 i] w fun e w' => ∃ v, e = .returned v ∧ w'.ownsRow w.heap.size 63 4 v (ptCode g ys ns i).length (insR (ptCode g ys ns i)).flatten ∧ Below w.heap.size w w' := by
 have hl : g.length = n := by have := hA.len; simpa using this
 have hn120 : n ≤ 120 := by rw [← hl]; exact hg.1.2
 have hc := hA.cap
 have hm := hA.max
 unfold maxLen at hm
 have hii : (i : Int) < n := by omega
 obtain ⟨b, off, p, rfl, hab, hgp, hcell⟩ := pts_get hA hi
 obtain ⟨c0, c1, c2, c3, c4, c5, c6⟩ := hcell w _ (Below.refl _ _) hab
 by_cases h0 : p.op = 0
 · have hp : ptCode g ys ns i = [⟨6, p.verdict, 0, 0⟩] := by unfold ptCode; rw [hgp]; simp only []; rw [if_pos h0]
   have HP := Lib.hid hp
   rw [h0] at c3
   clear hp h0 hL hst hA hg hgp hcell
   go_enter Tryz.func104, Tryz.ntmps104
   go_wp2
   go_ret
   refine ⟨.slice (some ⟨w.heap.size + 1, 0, none⟩) 1 1, rfl, ?_, by go_grown⟩
   rw [HP.out]
   have := World.ownsRow_lit (base := w.heap.size) (e := 63) (size := 4) (w.alloc (.cells #[.int .i64 p.verdict, .int .i64 p.field, .int .i64 p.mask, .int .i64 0, .int .i64 p.value, .int .i64 p.yes, .int .i64 p.no] 151)) #[.int .i64 6, .int .i64 p.verdict, .int .i64 0, .int .i64 0] 1 (by simp) (by unfold maxLen; omega) rfl
   simpa [insR, In4.cells] using this
 · obtain ⟨y, nn, hy, hnn, hyk, hnk⟩ := look_ways hg hgp h0
   have hyi : (y : Int) < n := by omega
   have hni : (nn : Int) < n := by omega
   obtain ⟨yv, hyv⟩ := bRow_some hL.yl hi
   obtain ⟨nv, hnv⟩ := bRow_some hL.nl hi
   have d1 := bRow_cell hL.yes hyv
   have d2 := bRow_cell hL.no hnv
   have d3 := nRow_cell hL.pl (hst.get hl hi)
   have d4 := nRow_cell hL.pl (hst.get hl (j := y) (by omega))
   have d5 := nRow_cell hL.pl (hst.get hl (j := nn) (by omega))
   have b0 := (show _ = some (Value.slice (some ⟨yb, 0, none⟩) n n) from hL.box.cell 0)
   have b1 := (show _ = some (Value.slice (some ⟨nb, 0, none⟩) n n) from hL.box.cell 1)
   have b2 := (show _ = some (Value.slice (some ⟨ab, 0, none⟩) n n) from hL.box.cell 2)
   have s1 : stAt g ys ns i ≤ 600 := Nat.le_trans (stAt_le g ys ns i) (by omega)
   have s2 : stAt g ys ns y ≤ 600 := Nat.le_trans (stAt_le g ys ns y) (by omega)
   have s3 : stAt g ys ns nn ≤ 600 := Nat.le_trans (stAt_le g ys ns nn) (by omega)
   have s4 : testAt g i ≤ 3 := by unfold testAt; split <;> (try split) <;> omega
   have hp : ptCode g ys ns i = [⟨1, p.field, 0, 0⟩] ++ (if p.mask = 4294967295 then [] else [⟨2, p.mask, 0, 0⟩]) ++
       [⟨if p.op = 3 then 4 else 3, p.value, if yv then 0 else (stAt g ys ns y : Int) - (stAt g ys ns i + testAt g i), if nv then (yv.toNat : Int) else (stAt g ys ns nn : Int) - (stAt g ys ns i + testAt g i)⟩] ++
       (if yv then [⟨5, (stAt g ys ns y : Int) - (stAt g ys ns i + testAt g i) - 1, 0, 0⟩] else []) ++
       (if nv then [⟨5, (stAt g ys ns nn : Int) - (stAt g ys ns i + testAt g i) - yv.toNat - 1, 0, 0⟩] else []) := by
     unfold ptCode
     rw [hgp]
     simp only []
     rw [if_neg h0, hyv, hnv, hy, hnn]
     rfl
   rw [hy] at c5
   rw [hnn] at c6
   have hd : (p.op == 0) = false := by simp [h0]
   have HP := Lib.hid hp; have HSA := Lib.hid hA; have HLx := Lib.hid hL
   have HYV := Lib.hid hyv; have HNV := Lib.hid hnv; have HS1 := Lib.hid (hst.get hl hi); have HS2 := Lib.hid (hst.get hl (j := y) (by omega)); have HS3 := Lib.hid (hst.get hl (j := nn) (by omega)); have HK := Lib.hid (show n ≤ 1000 by omega)
   clear hp hA hL hst hyv hnv hgp hcell hg hy hnn h0
   obtain ⟨pv, pf, pm, po, pl, py, pn⟩ := p
   simp only at c0 c1 c2 c3 c4 c5 c6 hd
   generalize stAt g ys ns i = SK at *
   generalize stAt g ys ns y = SY at *
   generalize stAt g ys ns nn = SN at *
   have X0 := Blk.new w 151 #[.int .i64 pv, .int .i64 pf, .int .i64 pm, .int .i64 po, .int .i64 pl, .int .i64 y, .int .i64 nn]
   have s5 : (600 : Int) ≤ 1000 := by omega
   have O0 : ((w.alloc (.cells #[.int .i64 pv, .int .i64 pf, .int .i64 pm, .int .i64 po, .int .i64 pl, .int .i64 y, .int .i64 nn] 151)).alloc (.cells #[.int .i64 1, .int .i64 pf, .int .i64 0, .int .i64 0] 63)).ownsRow w.heap.size 63 4 (.slice (some ⟨w.heap.size + 1, 0, none⟩) 1 1) ([⟨1, pf, 0, 0⟩] : List In4).length (insR [⟨1, pf, 0, 0⟩]).flatten := by
     have := World.ownsRow_lit (base := w.heap.size) (e := 63) (size := 4) (w.alloc (.cells #[.int .i64 pv, .int .i64 pf, .int .i64 pm, .int .i64 po, .int .i64 pl, .int .i64 y, .int .i64 nn] 151)) #[.int .i64 1, .int .i64 pf, .int .i64 0, .int .i64 0] 1 (by simp) (by unfold maxLen; omega) rfl
     simpa [insR, In4.cells] using this
   have X1 : Blk ((w.alloc (.cells #[.int .i64 pv, .int .i64 pf, .int .i64 pm, .int .i64 po, .int .i64 pl, .int .i64 y, .int .i64 nn] 151)).alloc (.cells #[.int .i64 1, .int .i64 pf, .int .i64 0, .int .i64 0] 63)) w.heap.size 151 #[.int .i64 pv, .int .i64 pf, .int .i64 pm, .int .i64 po, .int .i64 pl, .int .i64 y, .int .i64 nn] := X0.alloc _
   have hb1 : Below w.heap.size w ((w.alloc (.cells #[.int .i64 pv, .int .i64 pf, .int .i64 pm, .int .i64 po, .int .i64 pl, .int .i64 y, .int .i64 nn] 151)).alloc (.cells #[.int .i64 1, .int .i64 pf, .int .i64 0, .int .i64 0] 63)) := by go_grown
   have HO := Lib.hid O0; have HX := Lib.hid X1; clear O0 X1 X0
   rcases Decidable.em (pm = 4294967295) with hm4 | hm4
   case' inl =>
     have hdm : (pm != 4294967295) = false := by simp [hm4]
     have HM := Lib.hid (show (if pm = 4294967295 then ([] : List In4) else [⟨2, pm, 0, 0⟩]) = [] by rw [if_pos hm4])
     clear hm4
     go_enter Tryz.func104, Tryz.ntmps104
     obtain ⟨W, hW⟩ : ∃ W, W = ((w.alloc (.cells #[.int .i64 pv, .int .i64 pf, .int .i64 pm, .int .i64 po, .int .i64 pl, .int .i64 y, .int .i64 nn] 151)).alloc (.cells #[.int .i64 1, .int .i64 pf, .int .i64 0, .int .i64 0] 63)) := ⟨_, rfl⟩
     go_wp2
     rw [← hW]
     have HO1 := Lib.hid (show W.ownsRow w.heap.size 63 4 (.slice (some ⟨w.heap.size + 1, 0, none⟩) 1 1) ([⟨1, pf, 0, 0⟩] : List In4).length (insR [⟨1, pf, 0, 0⟩]).flatten by rw [hW]; exact HO.out)
     have HX1 := Lib.hid (show Blk W w.heap.size 151 #[.int .i64 pv, .int .i64 pf, .int .i64 pm, .int .i64 po, .int .i64 pl, .int .i64 y, .int .i64 nn] by rw [hW]; exact HX.out)
     have hbW : Below w.heap.size w W := by rw [hW]; exact hb1
     clear hW
   case' inr =>
     have hdm : (pm != 4294967295) = true := by simp [hm4]
     have HM := Lib.hid (show (if pm = 4294967295 then ([] : List In4) else [⟨2, pm, 0, 0⟩]) = [⟨2, pm, 0, 0⟩] by rw [if_neg hm4])
     clear hm4
     go_enter Tryz.func104, Tryz.ntmps104
     obtain ⟨W0, hW0⟩ : ∃ W, W = ((w.alloc (.cells #[.int .i64 pv, .int .i64 pf, .int .i64 pm, .int .i64 po, .int .i64 pl, .int .i64 y, .int .i64 nn] 151)).alloc (.cells #[.int .i64 1, .int .i64 pf, .int .i64 0, .int .i64 0] 63)) := ⟨_, rfl⟩
     go_upto_region 6 with (fail)
     rw [← hW0]
     have HO0 := Lib.hid (show W0.ownsRow w.heap.size 63 4 (.slice (some ⟨w.heap.size + 1, 0, none⟩) 1 1) 1 (insR [⟨1, pf, 0, 0⟩]).flatten by rw [hW0]; exact HO.out)
     have HX0 := Lib.hid (show Blk W0 w.heap.size 151 #[.int .i64 pv, .int .i64 pf, .int .i64 pm, .int .i64 po, .int .i64 pl, .int .i64 y, .int .i64 nn] by rw [hW0]; exact HX.out)
     have hb0 : Below w.heap.size w W0 := by rw [hW0]; exact hb1
     have hz0 := hb0.size
     have x2 := (show _ = some (Value.int .i64 pm) from HX0.out.cell 2)
     clear hW0
     go_wp2_with (at_builtin; go_must (refine wpList_app1g rfl (.tmp 30) (.tmp 34) _ rfl w.heap.size 63 Tryz.underlying38 info_Ins rfl (by omega) (by omega) (.slice (some ⟨w.heap.size + 1, 0, none⟩) 1 1) 1 (insR [⟨1, pf, 0, 0⟩]) rfl HO0.out rfl (by simp [Value.oneCell']) rfl (by omega) (by omega) ?_); intro v5 W hown5 hg5 _; obtain ⟨g5, cap5, rfl, hg5', hg5''⟩ := hown5.form (by omega))
     have HO1 := Lib.hid (show W.ownsRow w.heap.size 63 4 (.slice (some ⟨g5, 0, none⟩) 2 cap5) ([⟨1, pf, 0, 0⟩, ⟨2, pm, 0, 0⟩] : List In4).length (insR [⟨1, pf, 0, 0⟩, ⟨2, pm, 0, 0⟩]).flatten by simpa [insR, In4.cells] using hown5)
     have HX1 := Lib.hid (HX0.out.grown hg5 (by simp [Value.ownBlock]))
     have hbW : Below w.heap.size w W := hb0.trans ((Below.refl _ _).grown hg5 hz0 (fun k hk => (HO0.out.lt k hk).1))
     clear hown5 hg5
   all_goals
     clear c0 c1 c2 c3 c4 c5 c6 d1 d2 d3 d4 d5 b0 b1 b2 hb1 HX HO hd hdm
     have HLW := Lib.hid (HLx.out.below hbW)
     have HSAm := Lib.hid (fun m : Nat => (HSA.out.below hbW).below (drewN_below W m))
     have d3 := nRow_cell HLW.out.pl HS1.out
     have b2 := (show _ = some (Value.slice (some ⟨ab, 0, none⟩) n n) from HLW.out.box.cell 2)
     go_quiet ((go_at_call 139; refine Calls.quiet_of_same ((l5Test_any _ n c i g _ (HSAm.out _) hi HK.out).mono fun _ _ h => ⟨h.1, h.2.symm⟩)))
     generalize testAt g i = TK at *
     obtain ⟨V, hV⟩ : ∃ V, V = W.drewN nq := ⟨_, rfl⟩
     rw [← hV]
     have HLV := Lib.hid (show Lay V L yb nb ab n ys ns ps by rw [hV]; exact HLW.out.below (drewN_below _ nq))
     have hbV : Below w.heap.size w V := by rw [hV]; exact below_then hbW (drewN_below _ nq)
     have HOV := Lib.hid (own_below HO1.out (show Below W.heap.size W V by rw [hV]; exact drewN_below _ nq))
     have HXV := Lib.hid (HX1.out.below (show Below W.heap.size W V by rw [hV]; exact drewN_below _ nq) HX1.out.lt)
     clear hV HLW HSAm d3 b2 HO1 HX1 hbW
     have d4 := nRow_cell HLV.out.pl HS2.out
     have d5 := nRow_cell HLV.out.pl HS3.out
     have b2 := (show _ = some (Value.slice (some ⟨ab, 0, none⟩) n n) from HLV.out.box.cell 2)
     have x3 := (show _ = some (Value.int .i64 po) from HXV.out.cell 3)
     have x4 := (show _ = some (Value.int .i64 pl) from HXV.out.cell 4)
     have x5 := (show _ = some (Value.int .i64 (y : Int)) from HXV.out.cell 5)
     have x6 := (show _ = some (Value.int .i64 (nn : Int)) from HXV.out.cell 6)
     have hvz := hbV.size
     have HXA := HXV.out.alloc (.cells #[.int .i64 0, .int .i64 0, .int .i64 0, .int .i64 0] 63)
     have HLA := HLV.out.below (show Below V.heap.size V (V.alloc (.cells #[.int .i64 0, .int .i64 0, .int .i64 0, .int .i64 0] 63)) by go_grown)
     have e4 := nRow_cell HLA.pl HS2.out
     have e5 := nRow_cell HLA.pl HS3.out
     have a2 := (show _ = some (Value.slice (some ⟨ab, 0, none⟩) n n) from HLA.box.cell 2)
     have w4 := (show _ = some (Value.int .i64 pl) from HXA.cell 4)
     have w5 := (show _ = some (Value.int .i64 (y : Int)) from HXA.cell 5)
     have w6 := (show _ = some (Value.int .i64 (nn : Int)) from HXA.cell 6)
     clear HXA HLA
     have n1 : V.heap.size ≠ w.heap.size := by have := HXV.out.lt; omega
     have n2 : V.heap.size ≠ ab := by have := HLV.out.pl.lt; omega
     have n3 : V.heap.size ≠ L := by have := HLV.out.box.lt; omega
     have n1' := n1.symm; have n2' := n2.symm; have n3' := n3.symm
     go_wp2
     go_region_held3 (fun w' => w'.cell? ⟨w.heap.size, 4, none⟩ = some (.int .i64 pl) ∧ w'.cell? ⟨w.heap.size, 5, none⟩ = some (.int .i64 (y : Int)) ∧ w'.cell? ⟨w.heap.size, 6, none⟩ = some (.int .i64 (nn : Int)) ∧ w'.cell? ⟨ab, y, none⟩ = some (.int .i64 (SY : Int)) ∧ w'.cell? ⟨ab, nn, none⟩ = some (.int .i64 (SN : Int)) ∧ w'.cell? ⟨L, 2, none⟩ = some (.slice (some ⟨ab, 0, none⟩) n n))
       (first | exact ⟨x4, x5, x6, d4, d5, b2⟩ | exact ⟨w4, w5, w6, e4, e5, a2⟩ | go_keep) (fail)
     obtain ⟨U, hU⟩ : ∃ U, U = (V.alloc (.cells #[.int .i64 3, .int .i64 pl, .int .i64 ((SY : Int) - (SK + TK)), .int .i64 ((SN : Int) - (SK + TK))] 63)).drew := ⟨_, rfl⟩
     have hw2 : IntKind.i64.wrap ((SY : Int) - (SK + TK)) = SY - (SK + TK) := IntWalk.i64_in _ (by omega)
     have hw3 : IntKind.i64.wrap ((SN : Int) - (SK + TK)) = SN - (SK + TK) := IntWalk.i64_in _ (by omega)
     simp only [hw2, hw3]
     rw [← hU]
     clear hw2 hw3
     have hVU : Below V.heap.size V U := by rw [hU]; go_grown
     have HTU := Lib.hid (show Blk U V.heap.size 63 #[.int .i64 3, .int .i64 pl, .int .i64 ((SY : Int) - (SK + TK)), .int .i64 ((SN : Int) - (SK + TK))] by rw [hU]; exact Blk.new V _ _)
     have hbU := below_then hbV hVU
     have hxl := HXV.out.lt
     clear hU x4 x6 d4 d5 b2 w4 w5 w6 e4 e5 a2 n1 n2 n3 n1' n2' n3' x3 x5
     have x3 := (show _ = some (Value.int .i64 po) from (HXV.out.below hVU hxl).cell 3)
     rcases Decidable.em (po = 3) with ho | ho
     case' inl =>
       have HPO4 := Lib.hid ho
       have hdo : (po == 3) = true := by simp [ho]
       have t0 := (show _ = some (Value.int .i64 3) from HTU.out.cell 0)
       have tf := HTU.out.frozen 0
       clear ho
       go_upto_region 11 with (fail)
       obtain ⟨Z, hZ⟩ : ∃ Z, Z = U.setCell ⟨V.heap.size, 0, none⟩ (.int .i64 4) := ⟨_, rfl⟩
       rw [← hZ]
       have hVZ : Below V.heap.size V Z := by rw [hZ]; exact hVU.setCell (p := ⟨V.heap.size, 0, none⟩) (Nat.le_refl _) _
       obtain ⟨OP, hOP⟩ : ∃ OP : Int, OP = 4 := ⟨_, rfl⟩
       have HTZ := Lib.hid (show Blk Z V.heap.size 63 #[.int .i64 OP, .int .i64 pl, .int .i64 ((SY : Int) - (SK + TK)), .int .i64 ((SN : Int) - (SK + TK))] by rw [hZ, hOP]; exact HTU.out.set_ 0 _)
       have HPO := Lib.hid (show (if po = 3 then (4 : Int) else 3) = OP by rw [hOP, if_pos HPO4.out])
       clear hZ hOP t0 tf hdo HTU
     case' inr =>
       have HPO4 := Lib.hid ho
       have hdo : (po == 3) = false := by simp [ho]
       clear ho
       go_upto_region 11 with (fail)
       obtain ⟨Z, hZ⟩ : ∃ Z, Z = U := ⟨_, rfl⟩
       rw [← hZ]
       have hVZ : Below V.heap.size V Z := by rw [hZ]; exact hVU
       obtain ⟨OP, hOP⟩ : ∃ OP : Int, OP = 3 := ⟨_, rfl⟩
       have HTZ := Lib.hid (show Blk Z V.heap.size 63 #[.int .i64 OP, .int .i64 pl, .int .i64 ((SY : Int) - (SK + TK)), .int .i64 ((SN : Int) - (SK + TK))] by rw [hZ, hOP]; exact HTU.out)
       have HPO := Lib.hid (show (if po = 3 then (4 : Int) else 3) = OP by rw [hOP, if_neg HPO4.out])
       clear hZ hOP hdo HTU
     all_goals
       clear x3 hVU hbU
       have HLZ := Lib.hid (HLV.out.below hVZ)
       have HXZ := Lib.hid (HXV.out.below hVZ hxl)
       have b0 := (show _ = some (Value.slice (some ⟨yb, 0, none⟩) n n) from (HLZ.out.below (show Below Z.heap.size Z (Z.alloc (.cells #[] 63)) by go_grown)).box.cell 0)
       have d1 := bRow_cell (HLZ.out.below (show Below Z.heap.size Z (Z.alloc (.cells #[] 63)) by go_grown)).yes HYV.out
       cases yv
       case' false =>
         obtain ⟨TV, hTV⟩ : ∃ t : Int, t = (SY : Int) - (SK + TK) := ⟨_, rfl⟩
         obtain ⟨BL, hBL⟩ : ∃ l : List In4, l = [] := ⟨_, rfl⟩
         have HTV := Lib.hid (show (if false = true then 0 else (SY : Int) - (SK + TK)) = TV by rw [hTV]; rfl)
         have HBL := Lib.hid (show (if false = true then [⟨5, (SY : Int) - (SK + TK) - 1, 0, 0⟩] else ([] : List In4)) = BL by rw [hBL]; rfl)
         have hbl : BL.length = (false).toNat := by rw [hBL]; rfl
         have HTQ0 := Lib.hid (show Blk Z V.heap.size 63 #[.int .i64 OP, .int .i64 pl, .int .i64 TV, .int .i64 ((SN : Int) - (SK + TK))] by rw [hTV]; exact HTZ.out)
         go_upto_region 15 with (fail)
         obtain ⟨Q, hQ⟩ : ∃ Q, Q = (Z.alloc (.cells #[] 63)) := ⟨_, rfl⟩
         rw [← hQ]
         have hVQ : Below V.heap.size V Q := by rw [hQ]; exact hVZ.alloc hVZ.size _
         have HTQ := Lib.hid (show Blk Q V.heap.size 63 #[.int .i64 OP, .int .i64 pl, .int .i64 TV, .int .i64 ((SN : Int) - (SK + TK))] by rw [hQ]; exact HTQ0.out.alloc _)
         obtain ⟨B, hB⟩ : ∃ B : Nat, B = Z.heap.size := ⟨_, rfl⟩
         obtain ⟨bn, hbn⟩ : ∃ B : Nat, B = 0 := ⟨_, rfl⟩
         obtain ⟨bi, hbi⟩ : ∃ B : Int, B = 0 := ⟨_, rfl⟩
         obtain ⟨cb, hcb⟩ : ∃ B : Nat, B = 0 := ⟨_, rfl⟩
         have HBQ := Lib.hid (show Q.ownsRow Z.heap.size 63 4 (.slice (some ⟨B, 0, none⟩) bn cb) bn (insR BL).flatten by
           rw [hQ, hB, hbn, hcb, hBL]
           exact World.ownsRow_lit (base := Z.heap.size) (e := 63) (size := 4) Z #[] 0 (Nat.le_refl _) (by unfold maxLen; omega) rfl)
         have hzq : Z.heap.size ≤ Q.heap.size := by rw [hQ]; simp
         have hbn2 : bn = BL.length := by rw [hbn, hBL]; rfl
         have hval : Value.slice (some ⟨Z.heap.size, 0, none⟩) 0 0 = .slice (some ⟨B, 0, none⟩) bn cb := by rw [hB, hbn, hcb]
         rw [hval]
         clear hQ hB hbn hbi hcb hBL hTV hval HTQ0 d1 b0
       case' true =>
         have t2 := (show _ = some (Value.int .i64 ((SY : Int) - (SK + TK))) from (HTZ.out.alloc (.cells #[] 63)).cell 2)
         have tf := (HTZ.out.alloc (.cells #[] 63)).frozen 2
         go_upto_region 14 with (fail)
         obtain ⟨Y, hY⟩ : ∃ Y, Y = (Z.alloc (.cells #[] 63)).setCell ⟨V.heap.size, 2, none⟩ (.int .i64 0) := ⟨_, rfl⟩
         rw [← hY]
         have hVY : Below V.heap.size V Y := by rw [hY]; exact (hVZ.alloc hVZ.size _).setCell (p := ⟨V.heap.size, 2, none⟩) (Nat.le_refl _) _
         have HBY := Lib.hid (show Y.ownsRow Z.heap.size 63 4 (.slice (some ⟨Z.heap.size, 0, none⟩) 0 0) 0 ([] : List (List Value)).flatten by
           rw [hY]
           exact ownsRow_setCell_below (World.ownsRow_lit (base := Z.heap.size) (e := 63) (size := 4) Z #[] 0 (Nat.le_refl _) (by unfold maxLen; omega) rfl) (by have := HTZ.out.lt; simpa using this) _)
         have HTY := Lib.hid (show Blk Y V.heap.size 63 #[.int .i64 OP, .int .i64 pl, .int .i64 0, .int .i64 ((SN : Int) - (SK + TK))] by rw [hY]; exact (HTZ.out.alloc _).set_ 2 _)
         have hzy : Z.heap.size ≤ Y.heap.size := by rw [hY]; simp
         clear hY t2 tf b0 d1
         have HLY := Lib.hid (HLV.out.below hVY)
         have x5 := (show _ = some (Value.int .i64 (y : Int)) from (HXV.out.below hVY hxl).cell 5)
         have b2 := (show _ = some (Value.slice (some ⟨ab, 0, none⟩) n n) from HLY.out.box.cell 2)
         have d4 := nRow_cell HLY.out.pl HS2.out
         obtain ⟨bv, hbv⟩ : ∃ v : Value, v = .slice (some ⟨Z.heap.size, 0, none⟩) 0 0 := ⟨_, rfl⟩
         rw [← hbv]
         have HBV := Lib.hid (show Y.ownsRow Z.heap.size 63 4 bv 0 ([] : List (List Value)).flatten by rw [hbv]; exact HBY.out)
         have hge : ∀ k, bv.ownBlock = some k → Z.heap.size ≤ k := fun k hk => (HBV.out.lt k hk).1
         have HGE := Lib.hid hge
         clear hbv HBY hge
         go_region_held3 (fun w' => w'.cell? ⟨w.heap.size, 5, none⟩ = some (.int .i64 (y : Int)) ∧ w'.cell? ⟨ab, y, none⟩ = some (.int .i64 (SY : Int)) ∧ w'.cell? ⟨L, 2, none⟩ = some (.slice (some ⟨ab, 0, none⟩) n n))
           (first | exact ⟨x5, d4, b2⟩ | exact ⟨q5, q4, q2⟩ | go_keep)
           ((refine step_app0g (w0 := Y.drew) rfl (.tmp 85) (.tmp 98) _ rfl Z.heap.size 63 Tryz.underlying38 info_Ins rfl (by omega) (by omega) bv 0 [] rfl (by exact HBV.out) rfl (by simp [Value.oneCell']) rfl (by decide) (by exact hzy) ?_; intro v9 w9 hown9 hg9 _; have hb9 : Below Z.heap.size Y w9 := (Below.refl Z.heap.size Y).drew.grown hg9 (by exact hzy) (fun k hk => HGE.out k hk); have hV9 := hVY.trans (hb9.mono hVZ.size); have q5 := (show _ = some (Value.int .i64 (y : Int)) from (HXV.out.below hV9 hxl).cell 5); have q2 := (show _ = some (Value.slice (some ⟨ab, 0, none⟩) n n) from (HLV.out.below hV9).box.cell 2); have q4 := nRow_cell (HLV.out.below hV9).pl HS2.out))
         obtain ⟨TV, hTV⟩ : ∃ t : Int, t = 0 := ⟨_, rfl⟩
         obtain ⟨BL, hBL⟩ : ∃ l : List In4, l = [⟨5, (SY : Int) - (SK + TK) - 1, 0, 0⟩] := ⟨_, rfl⟩
         have HTV := Lib.hid (show (if true = true then 0 else (SY : Int) - (SK + TK)) = TV by rw [hTV]; rfl)
         have wr1 : IntKind.i64.wrap ((SY : Int) - (SK + TK)) = SY - (SK + TK) := IntWalk.i64_in _ (by omega)
         have wr2 : IntKind.i64.wrap ((SY : Int) - (SK + TK) - 1) = SY - (SK + TK) - 1 := IntWalk.i64_in _ (by omega)
         have HBL := Lib.hid (show (if true = true then [⟨5, (SY : Int) - (SK + TK) - 1, 0, 0⟩] else ([] : List In4)) = BL by rw [hBL]; rfl)
         have hbl : BL.length = (true).toNat := by rw [hBL]; rfl
         have HTQ := Lib.hid (show Blk w9 V.heap.size 63 #[.int .i64 OP, .int .i64 pl, .int .i64 TV, .int .i64 ((SN : Int) - (SK + TK))] by rw [hTV]; exact HTY.out.below hb9 HTZ.out.lt)
         obtain ⟨B, cb, rfl, hB1, hB2⟩ := hown9.form (by omega)
         obtain ⟨bn, hbn⟩ : ∃ B : Nat, B = 1 := ⟨_, rfl⟩
         have HBQ := Lib.hid (show w9.ownsRow Z.heap.size 63 4 (.slice (some ⟨B, 0, none⟩) bn cb) bn (insR BL).flatten by
           rw [hbn, hBL]
           rw [wr1, wr2] at hown9
           simpa [insR, In4.cells] using hown9)
         have hzq : Z.heap.size ≤ w9.heap.size := by omega
         have hbn2 : bn = BL.length := by rw [hbn, hBL]; rfl
         have hval : Value.slice (some ⟨B, 0, none⟩) (0 + 1) cb = .slice (some ⟨B, 0, none⟩) bn cb := by rw [hbn]
         rw [hval]
         clear hbn hBL hTV hval hown9 hg9 hb9 q2 q4 q5 HGE HBV HTY HLY hzy hB1 hB2 x5 b2 d4 wr1 wr2
         obtain ⟨Q, hQ⟩ : ∃ Q, Q = w9 := ⟨_, rfl⟩
         rw [← hQ] at HTQ HBQ hzq hV9
         rw [← hQ]
         have hVQ := hV9
         clear hV9 hQ
         go_upto_region 15 with (fail)
       all_goals
         have HLQ := Lib.hid (HLV.out.below hVQ)
         have hvq := hVQ.size
         have hbq := below_then hbV hVQ
         have b1 := (show _ = some (Value.slice (some ⟨nb, 0, none⟩) n n) from HLQ.out.box.cell 1)
         have d2 := bRow_cell HLQ.out.no HNV.out
         have hbn1 : bn ≤ 1 := by rw [hbn2, hbl]; decide
         have HBN := Lib.hid hbn1
         have HBN2 := Lib.hid hbn2
         have HBT := Lib.hid (show (bn : Int) = _ from congrArg (Nat.cast : Nat → Int) (hbn2.trans hbl))
         clear hbn2 hbl
         cases nv
         case' false =>
           obtain ⟨NV, hNV⟩ : ∃ t : Int, t = (SN : Int) - (SK + TK) := ⟨_, rfl⟩
           have HNV2 := Lib.hid hNV
           rw [← hNV] at HTQ
           go_upto_region 18 with (fail)
           obtain ⟨CL, hCL⟩ : ∃ l : List In4, l = [] := ⟨_, rfl⟩
           have HNQ := Lib.hid (show (if false = true then (bn : Int) else (SN : Int) - (SK + TK)) = NV by rw [hNV]; rfl)
           have HCL := Lib.hid (show (if false = true then [⟨5, (SN : Int) - (SK + TK) - (bn : Int) - 1, 0, 0⟩] else ([] : List In4)) = CL by rw [hCL]; rfl)
           obtain ⟨R, hR⟩ : ∃ Y, Y = Q := ⟨_, rfl⟩
           rw [← hR]
           have hVR : Below V.heap.size V R := by rw [hR]; exact hVQ
           have HTR := Lib.hid (show Blk R V.heap.size 63 #[.int .i64 OP, .int .i64 pl, .int .i64 TV, .int .i64 NV] by rw [hR]; exact HTQ.out)
           have hzr : Z.heap.size ≤ R.heap.size := by rw [hR]; exact hzq
           obtain ⟨D, hD⟩ : ∃ t : Nat, t = B := ⟨_, rfl⟩
           obtain ⟨dn, hdn⟩ : ∃ t : Nat, t = bn := ⟨_, rfl⟩
           obtain ⟨cd, hcd⟩ : ∃ t : Nat, t = cb := ⟨_, rfl⟩
           have HDR := Lib.hid (show R.ownsRow Z.heap.size 63 4 (.slice (some ⟨D, 0, none⟩) dn cd) dn (insR (BL ++ CL)).flatten by rw [hR, hCL, hD, hdn, hcd, List.append_nil]; exact HBQ.out)
           have hdn2 : dn = (BL ++ CL).length := by rw [hdn, hCL, List.append_nil]; exact HBN2.out
           have hdn3 : dn ≤ 2 := by omega
           have hval : Value.slice (some ⟨B, 0, none⟩) bn cb = .slice (some ⟨D, 0, none⟩) dn cd := by rw [hD, hdn, hcd]
           rw [hval]
           clear hval hR hD hdn hcd hNV hCL HNV2
         case' true =>
           have t3 := (show _ = some (Value.int .i64 ((SN : Int) - (SK + TK))) from HTQ.out.cell 3)
           have tf := HTQ.out.frozen 3
           go_upto_region 17 with (fail)
           obtain ⟨Y2, hY2⟩ : ∃ Y, Y = Q.setCell ⟨V.heap.size, 3, none⟩ (.int .i64 (bn : Int)) := ⟨_, rfl⟩
           rw [← hY2]
           have hVY2 : Below V.heap.size V Y2 := by rw [hY2]; exact hVQ.setCell (p := ⟨V.heap.size, 3, none⟩) (Nat.le_refl _) _
           have HTY2 := Lib.hid (show Blk Y2 V.heap.size 63 #[.int .i64 OP, .int .i64 pl, .int .i64 TV, .int .i64 (bn : Int)] by rw [hY2]; exact HTQ.out.set_ 3 _)
           have HBY2 := Lib.hid (show Y2.ownsRow Z.heap.size 63 4 (.slice (some ⟨B, 0, none⟩) bn cb) bn (insR BL).flatten by rw [hY2]; exact ownsRow_setCell_below HBQ.out (by exact HTZ.out.lt) _)
           have hzy2 : Z.heap.size ≤ Y2.heap.size := by rw [hY2]; simpa using hzq
           clear hY2 t3 tf b1 d2
           have HLY2 := Lib.hid (HLV.out.below hVY2)
           have x6 := (show _ = some (Value.int .i64 (nn : Int)) from (HXV.out.below hVY2 hxl).cell 6)
           have b2 := (show _ = some (Value.slice (some ⟨ab, 0, none⟩) n n) from HLY2.out.box.cell 2)
           have d5 := nRow_cell HLY2.out.pl HS3.out
           have hge : ∀ k, (Value.slice (some ⟨B, 0, none⟩) bn cb).ownBlock = some k → Z.heap.size ≤ k := fun k hk => (HBY2.out.lt k hk).1
           have HGE := Lib.hid hge
           clear hge
           go_region_held3 (fun w' => w'.cell? ⟨w.heap.size, 6, none⟩ = some (.int .i64 (nn : Int)) ∧ w'.cell? ⟨ab, nn, none⟩ = some (.int .i64 (SN : Int)) ∧ w'.cell? ⟨L, 2, none⟩ = some (.slice (some ⟨ab, 0, none⟩) n n))
             (first | exact ⟨x6, d5, b2⟩ | exact ⟨q5, q4, q2⟩ | go_keep)
             ((refine step_app0g (w0 := Y2.drew) rfl (.tmp 110) (.tmp 126) _ rfl Z.heap.size 63 Tryz.underlying38 info_Ins rfl (by omega) (by omega) (.slice (some ⟨B, 0, none⟩) bn cb) bn (insR BL) rfl (by exact HBY2.out) rfl (by simp [Value.oneCell']) rfl (by have := HBN.out; omega) (by exact hzy2) ?_; intro v8 w8 hown8 hg8 _; have hb8 : Below Z.heap.size Y2 w8 := (Below.refl Z.heap.size Y2).drew.grown hg8 (by exact hzy2) (fun k hk => HGE.out k hk); have hV8 := hVY2.trans (hb8.mono hVZ.size); have q5 := (show _ = some (Value.int .i64 (nn : Int)) from (HXV.out.below hV8 hxl).cell 6); have q2 := (show _ = some (Value.slice (some ⟨ab, 0, none⟩) n n) from (HLV.out.below hV8).box.cell 2); have q4 := nRow_cell (HLV.out.below hV8).pl HS3.out))
           obtain ⟨NV, hNV⟩ : ∃ t : Int, t = (bn : Int) := ⟨_, rfl⟩
           obtain ⟨CL, hCL⟩ : ∃ l : List In4, l = [⟨5, (SN : Int) - (SK + TK) - (bn : Int) - 1, 0, 0⟩] := ⟨_, rfl⟩
           have wr1 : IntKind.i64.wrap ((SN : Int) - (SK + TK)) = SN - (SK + TK) := IntWalk.i64_in _ (by omega)
           have wr2 : IntKind.i64.wrap ((SN : Int) - (SK + TK) - (bn : Int)) = SN - (SK + TK) - (bn : Int) := IntWalk.i64_in _ (by omega)
           have wr3 : IntKind.i64.wrap ((SN : Int) - (SK + TK) - (bn : Int) - 1) = SN - (SK + TK) - (bn : Int) - 1 := IntWalk.i64_in _ (by omega)
           have HNQ := Lib.hid (show (if true = true then (bn : Int) else (SN : Int) - (SK + TK)) = NV by rw [hNV]; rfl)
           have HCL := Lib.hid (show (if true = true then [⟨5, (SN : Int) - (SK + TK) - (bn : Int) - 1, 0, 0⟩] else ([] : List In4)) = CL by rw [hCL]; rfl)
           have HTR0 := Lib.hid (show Blk w8 V.heap.size 63 #[.int .i64 OP, .int .i64 pl, .int .i64 TV, .int .i64 NV] by rw [hNV]; exact HTY2.out.below hb8 HTZ.out.lt)
           obtain ⟨D, cd, rfl, hD1, hD2⟩ := hown8.form (by omega)
           obtain ⟨dn, hdn⟩ : ∃ B : Nat, B = bn + 1 := ⟨_, rfl⟩
           have hDR0 : w8.ownsRow Z.heap.size 63 4 (.slice (some ⟨D, 0, none⟩) dn cd) dn (insR (BL ++ CL)).flatten := by
             rw [hdn, hCL]
             rw [wr1, wr2, wr3] at hown8
             simpa [insR, In4.cells] using hown8
           have hzr0 : Z.heap.size ≤ w8.heap.size := by omega
           have hdn2 : dn = (BL ++ CL).length := by rw [hdn, hCL, List.length_append, ← HBN2.out]; rfl
           have hdn3 : dn ≤ 2 := by omega
           have hval : Value.slice (some ⟨D, 0, none⟩) (bn + 1) cd = .slice (some ⟨D, 0, none⟩) dn cd := by rw [hdn]
           rw [hval]
           clear hdn hCL hNV hval hown8 hg8 hb8 q2 q4 q5 HGE HBY2 HTY2 HLY2 hzy2 hD1 hD2 x6 b2 d5 wr1 wr2 wr3
           obtain ⟨R, hR⟩ : ∃ Q, Q = w8 := ⟨_, rfl⟩
           rw [← hR] at HTR0 hDR0 hzr0 hV8
           rw [← hR]
           have hVR := hV8
           have HTR := HTR0
           have HDR := Lib.hid hDR0
           have hzr := hzr0
           clear hV8 hR HTR0 hDR0 hzr0
           go_upto_region 18 with (fail)
         all_goals
           have e0 := (show _ = some (Value.int .i64 OP) from HTR.out.cell 0)
           have e1 := (show _ = some (Value.int .i64 pl) from HTR.out.cell 1)
           have e2 := (show _ = some (Value.int .i64 TV) from HTR.out.cell 2)
           have e3 := (show _ = some (Value.int .i64 NV) from HTR.out.cell 3)
           have HOR := Lib.hid (own_below HOV.out hVR)
           have hbR := below_then hbV hVR
           have hrz := hbR.size
           have hzv := hVZ.size
           have HDN := Lib.hid hdn2
           clear hdn2
           obtain ⟨i0, hi0, hz0, hz1, hz2⟩ := info_parts info_Ins
           go_wp2_with (at_builtin; first
             | (((refine wpList_app1g (w0 := R) rfl (.tmp 128) (.tmp 130) _ rfl w.heap.size 63 Tryz.underlying38 info_Ins rfl (by omega) (by omega) (.slice (some ⟨w.heap.size + 1, 0, none⟩) 1 1) 1 (insR [⟨1, pf, 0, 0⟩]) rfl (by exact HOR.out) rfl (by simp [Value.oneCell']) rfl (by simp) (by omega) ?_)); intro v5 w5 hown5 hg5 _; have hb5 := (Below.refl w.heap.size R).grown hg5 hrz (fun k hk => (HOR.out.lt k hk).1); have hd5 := HDR.out.kept hg5 (own_apart_l HOV.out HDR.out hzv); clear hg5)
             | (((refine wpList_app1g (w0 := R) rfl (.tmp 128) (.tmp 130) _ rfl w.heap.size 63 Tryz.underlying38 info_Ins rfl (by omega) (by omega) (.slice (some ⟨g5, 0, none⟩) 2 cap5) 2 (insR [⟨1, pf, 0, 0⟩, ⟨2, pm, 0, 0⟩]) rfl (by exact HOR.out) rfl (by simp [Value.oneCell']) rfl (by simp) (by omega) ?_)); intro v5 w5 hown5 hg5 _; have hb5 := (Below.refl w.heap.size R).grown hg5 hrz (fun k hk => (HOR.out.lt k hk).1); have hd5 := HDR.out.kept hg5 (own_apart_l HOV.out HDR.out hzv); clear hg5)
             | ((go_must (refine wpList_append_own _ rfl (.tmp 131) (.tmp 132) _ rfl w.heap.size 63 i0 _ 4 32 Tryz.underlying38 hi0 hz0 hz1 hz2 rfl (by omega) v5 _ _ rfl hown5 ⟨D, 0, none⟩ dn cd (insR (BL ++ CL)).flatten rfl hd5.1 (hd5.cells rfl) (ins_one _) (by unfold maxLen; omega) (by omega) (by have := hb5.size; omega) ?_)); intro v7 w7 hown7 hg7 _; have hb7 := hb5.grown hg7 (Nat.le_trans hrz hb5.size) (fun k hk => (hown5.lt k hk).1)))
           go_ret
           refine ⟨v7, rfl, own_eq hown7 ?_ ?_, hbR.trans hb7⟩
           · rw [HP.out, HM.out, HPO.out, ← HBT.out, HTV.out, HNQ.out, HBL.out, HCL.out, HDN.out]
             simp
             try omega
           · rw [HP.out, HM.out, HPO.out, ← HBT.out, HTV.out, HNQ.out, HBL.out, HCL.out]
             simp [insR, In4.cells]
end Go.Proofs.YtdjgicapbpoigaaGreatDoor
