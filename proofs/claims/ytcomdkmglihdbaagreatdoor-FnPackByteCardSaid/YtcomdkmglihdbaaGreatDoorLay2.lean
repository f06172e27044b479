/- How the points of a graph are laid: l5Lay.place. -/
import Derived.Test.YtcomdkmglihdbaaGreatDoorPts
import Derived.Deep.QuietTactic
import Derived.BigQuiet
import Derived.IntWalk
namespace Go.Proofs.YtcomdkmglihdbaaGreatDoor
open Go.RowKit
set_option linter.unusedSimpArgs false
set_option linter.unusedVariables false

/-- What a point that is ok leads to. -/
theorem look_ways {g : List Pt} (hg : graphOk g) {k : Nat} {p : Pt} (hp : g[k]? = some p) (h0 : p.op ≠ 0) : ∃ y n : Nat, p.yes = y ∧ p.no = n ∧ y < k ∧ n < k := by
  have := hg.2 k p hp
  unfold ptOk at this
  refine ⟨p.yes.toNat, p.no.toNat, ?_, ?_, ?_, ?_⟩ <;> omega
theorem drewN_below (w : World) (m : Nat) : Below w.heap.size w (w.drewN m) := ⟨rfl, rfl, rfl, Nat.le_refl _, fun _ _ => rfl⟩
def Starts (g : List Pt) (ys ns : List Bool) (ps : List Nat) : Prop := ∀ j : Nat, j < g.length → ps[j]? = some (stAt g ys ns j)

set_option maxRecDepth 100000 in
set_option maxHeartbeats 16000000 in
theorem place_any (w0 : World) (A : Option Addr) (n c L yb nb ab : Nat) (g : List Pt) (ys ns : List Bool) (ps : List Nat) (w : World) (hA : SlA w0 7 A n c (g.map Pt.cells)) (hg : graphOk g) (hw : Below w0.heap.size w0 w) (hL : Lay w L yb nb ab n ys ns ps) (hyb : w0.heap.size ≤ yb) (hnb : w0.heap.size ≤ nb) (hab : w0.heap.size ≤ ab) :
    Calls Tryz.prog 119 #[.pointer (some ⟨L, 0, none⟩), .slice A n c] w fun e w' => ∃ (ok : Bool) (ps' : List Nat), e = .returned (.bool ok) ∧ Lay w' L yb nb ab n (nextY g ys ns) (nextN g ys ns) ps' ∧ Starts g ys ns ps' ∧ (ok = true ↔ (nextY g ys ns = ys ∧ nextN g ys ns = ns)) ∧ Below w0.heap.size w0 w' := by
  have hl : g.length = n := by have := hA.len; simpa using this
  have hn120 : n ≤ 120 := by rw [← hl]; exact hg.1.2
  have hc := hA.cap
  have hm := hA.max
  unfold maxLen at hm
  have hbs := hw.size
  have hts : ∀ k, tailSum (szAt g ys ns) n k ≤ 600 := fun k => Nat.le_trans (tailSum_le (szAt_le g ys ns) n _ k rfl) (by omega)
  have HL := Lib.hid hL; have HG := Lib.hid hg; have HN := Lib.hid hl; have HA := Lib.hid hA; have HTS := Lib.hid hts; clear hL hg hl hA hts
  go_enter Tryz.func119, Tryz.ntmps119
  go_wp2
  go_loopw [5, 6] (fun m i wr => ∃ (k : Nat) (z : Int) (ps' : List Nat), k ≤ n ∧ z + 1 = k ∧ i = .int .i64 z ∧ m = .int .i64 (tailSum (szAt g ys ns) n k : Nat) ∧ Lay wr L yb nb ab n ys ns ps' ∧ (∀ j, k ≤ j → j < n → ps'[j]? = some (stAt g ys ns j)) ∧ Below w0.heap.size w0 wr) (fun _ i _ => (intOf i + 1).toNat)
  case atStart => exact ⟨n, (n : Int) - 1, ps, Nat.le_refl _, by omega, by go_num, by rw [tailSum_end]; rfl, HL.out, fun j h1 h2 => absurd h1 (by omega), hw⟩
  case round =>
    obtain ⟨k, z, ps', hk, hkz, rfl, rfl, hL, hst, hbw⟩ := hrel
    have hbz := hbw.size
    have b2 := (show _ = some (Value.slice (some ⟨ab, 0, none⟩) n n) from hL.box.cell 2)
    by_cases hge : 0 ≤ z
    · obtain ⟨m, rfl⟩ : ∃ m : Nat, z = m := ⟨z.toNat, by omega⟩
      obtain rfl : k = m + 1 := by omega
      have hmn : m < n := by omega
      have hmni : (m : Int) < n := by omega
      obtain ⟨a0, ha0⟩ := nRow_some hL.al hmn
      have d0 := nRow_cell hL.pl ha0
      have f0 := hL.pl.frozen m
      have hL2 := hL.set_pl m (tailSum (szAt g ys ns) n (m + 1))
      have hb2 : Below w0.heap.size w0 _ := hbw.setCell (p := ⟨ab, m, none⟩) hab (.int .i64 ((tailSum (szAt g ys ns) n (m + 1) : Nat) : Int))
      have h600 := HTS.out (m + 1)
      have hsz5 := szAt_le g ys ns m
      have HS := Lib.hid (tailSum_step (f := szAt g ys ns) hmn); have HL2 := Lib.hid hL2; have HST := Lib.hid hst; have HAL := Lib.hid hL.al; clear hL hL2 hst ha0
      generalize hT : tailSum (szAt g ys ns) n (m + 1) = T at *
      go_wp2_with fail
      refine (l5Size_any A n c L yb nb ab m g ys ns _ _ (HA.out.below hb2) (by exact HL2.out) hmn (by omega)).mono ?_
      rintro e w2 ⟨rfl, rfl⟩
      go_wp2
      refine ⟨⟨m, (m : Int) - 1, ps'.set m T, by omega, by omega, by go_num, ?_, HL2.out, fun j h1 h2 => ?_, hb2⟩, by simp [intOf]⟩
      · rw [HS.out]; go_num
      · by_cases e : m = j
        · subst e
          rw [List.getElem?_set_self (by rw [HAL.out]; exact hmn)]
          unfold stAt
          rw [HN.out, hT]
        · rw [List.getElem?_set_ne e]
          exact HST.out j (by omega) h2
    · obtain rfl : k = 0 := by omega
      have hst' : Starts g ys ns ps' := fun j hj => hst j (Nat.zero_le _) (by rw [← HN.out]; exact hj)
      have HST := Lib.hid hst'; have HLa := Lib.hid hL; clear HL hst hst' hL
      go_wp2
      go_loopw [7, 8] (fun okv i wr => ∃ (k : Nat) (okb : Bool), k ≤ n ∧ i = .int .i64 k ∧ okv = .bool okb ∧ Lay wr L yb nb ab n (stepF (farY g ys ns) ys k) (stepF (farN g ys ns) ns k) ps' ∧ ((okb = true ∧ nearN (stepF (farY g ys ns) ys k) + nearN (stepF (farN g ys ns) ns k) = nearN ys + nearN ns) ∨ (okb = false ∧ nearN (stepF (farY g ys ns) ys k) + nearN (stepF (farN g ys ns) ns k) < nearN ys + nearN ns)) ∧ Below w0.heap.size w0 wr) (fun _ i _ => n - (intOf i).toNat)
      case atStart => exact ⟨0, true, Nat.zero_le _, rfl, rfl, by rw [stepF_zero, stepF_zero]; exact HLa.out, .inl ⟨rfl, by rw [stepF_zero, stepF_zero]⟩, hbw⟩
      case round =>
        obtain ⟨k, okb, hk, rfl, rfl, hL, hsum, hbw2⟩ := hrel
        clear hbw hge hkz hbz b2
        by_cases hkn : k < n
        · have hkni : (k : Int) < n := by omega
          obtain ⟨b, off, p, rfl, hab', hgp, hcell⟩ := pts_get HA.out hkn
          obtain ⟨c0, c1, c2, c3, c4, c5, c6⟩ := hcell _ _ hbw2 hab'
          obtain ⟨yv, hyv⟩ := bRow_some (rs := ys) (n := n) (by have := hL.yl; rwa [stepF_len] at this) hkn
          obtain ⟨nv, hnv⟩ := bRow_some (rs := ns) (n := n) (by have := hL.nl; rwa [stepF_len] at this) hkn
          have d1 := bRow_cell hL.yes (stepF_at (P := farY g ys ns) hyv)
          have d2 := bRow_cell hL.no (stepF_at (P := farN g ys ns) hnv)
          have b0 := (show _ = some (Value.slice (some ⟨yb, 0, none⟩) n n) from hL.box.cell 0)
          have b1 := (show _ = some (Value.slice (some ⟨nb, 0, none⟩) n n) from hL.box.cell 1)
          have b2 := (show _ = some (Value.slice (some ⟨ab, 0, none⟩) n n) from hL.box.cell 2)
          have d3 := nRow_cell hL.pl (HST.out k (by rw [HN.out]; exact hkn))
          have HC := Lib.hid hcell
          clear hcell c0 c1 c2 c4
          by_cases h0 : p.op = 0
          · have hd : (p.op == 0) = true := by simp [h0]
            have HE1 := Lib.hid (stepF_same (P := farY g ys ns) hyv (by simp [farY, hgp, h0])); have HE2 := Lib.hid (stepF_same (P := farN g ys ns) hnv (by simp [farN, hgp, h0]))
            have HLx := Lib.hid hL; have HSx := Lib.hid hsum; clear hL hsum hgp hyv hnv d1 d2 d3 b0 b1 b2
            rw [h0] at c3
            clear h0 hd
            go_wp2
            exact ⟨⟨k + 1, okb, by omega, by go_num, rfl, by rw [HE1.out, HE2.out]; exact HLx.out, by rw [HE1.out, HE2.out]; exact HSx.out, hbw2⟩, by simp [intOf]; omega⟩
          · have hd : (p.op == 0) = false := by simp [h0]
            obtain ⟨y, nn, hy, hnn, hyk, hnk⟩ := look_ways HG.out hgp h0
            rw [hy] at c5
            rw [hnn] at c6
            have d4 := nRow_cell hL.pl (HST.out y (by rw [HN.out]; omega))
            have d5 := nRow_cell hL.pl (HST.out nn (by rw [HN.out]; omega))
            have HFY := Lib.hid (show farY g ys ns k = decide ((stAt g ys ns y : Int) - (stAt g ys ns k + testAt g k) > 6) by unfold farY; rw [hgp]; simp [h0, hy])
            have HFN := Lib.hid (show farN g ys ns k = decide ((stAt g ys ns nn : Int) - (stAt g ys ns k + testAt g k) > 6) by unfold farN; rw [hgp]; simp [h0, hnn])
            have s1 : stAt g ys ns k ≤ 600 := Nat.le_trans (stAt_le g ys ns k) (by rw [HN.out]; omega)
            have s2 : stAt g ys ns y ≤ 600 := Nat.le_trans (stAt_le g ys ns y) (by rw [HN.out]; omega)
            have s3 : stAt g ys ns nn ≤ 600 := Nat.le_trans (stAt_le g ys ns nn) (by rw [HN.out]; omega)
            have s4 : testAt g k ≤ 3 := by unfold testAt; split <;> (try split) <;> omega
            have hyi : (y : Int) < n := by omega
            have hni : (nn : Int) < n := by omega
            have hst4 := Lib.hid (HST.out y (by rw [HN.out]; omega)); have hst5 := Lib.hid (HST.out nn (by rw [HN.out]; omega))
            have HLx := Lib.hid hL; have HSx := Lib.hid hsum; have HYV := Lib.hid hyv; have HNV := Lib.hid hnv; have HSA := Lib.hid (fun m : Nat => (HA.out.below hbw2).below (drewN_below _ m)); have HK1 := Lib.hid (show n ≤ 1000 by omega)
            clear hL hsum hyv hnv hgp h0
            generalize stAt g ys ns k = SK at *
            generalize stAt g ys ns y = SY at *
            generalize stAt g ys ns nn = SN at *
            go_wp2
            go_quiet ((go_at_call 127; refine Calls.quiet_of_same ((l5Test_any _ n c k g _ (HSA.out _) hkn HK1.out).mono fun _ _ h => ⟨h.1, h.2.symm⟩)))
            generalize testAt g k = TK at *
            obtain ⟨W, hW⟩ : ∃ W, W = wr.drewN nq := ⟨_, rfl⟩
            rw [← hW]
            have HLW := Lib.hid (show Lay W L yb nb ab n (stepF (farY g ys ns) ys k) (stepF (farN g ys ns) ns k) ps' by rw [hW]; exact HLx.out.below (drewN_below _ nq))
            have hbW : Below w0.heap.size w0 W := by rw [hW]; exact below_step hbw2 hbw2.size (drewN_below _ nq)
            clear hW HLx HSA d1 d2 d3 d4 d5 b0 b1 b2 c3 c5 c6 hbw2 hd
            obtain ⟨-, -, -, -, -, c5, c6⟩ := HC.out W _ hbW hab'
            rw [hy] at c5
            rw [hnn] at c6
            have d1 := bRow_cell HLW.out.yes (stepF_at (P := farY g ys ns) HYV.out)
            have f1 := HLW.out.yes.frozen k
            have d4 := nRow_cell HLW.out.pl hst4.out
            have b0 := (show _ = some (Value.slice (some ⟨yb, 0, none⟩) n n) from HLW.out.box.cell 0)
            have b2 := (show _ = some (Value.slice (some ⟨ab, 0, none⟩) n n) from HLW.out.box.cell 2)
            have hw1 : IntKind.i64.wrap ((SK : Int) + TK) = SK + TK := IntWalk.i64_in _ (by omega)
            have hw2 : IntKind.i64.wrap ((SY : Int) - (SK + TK)) = SY - (SK + TK) := IntWalk.i64_in _ (by omega)
            have hw3 : IntKind.i64.wrap ((SN : Int) - (SK + TK)) = SN - (SK + TK) := IntWalk.i64_in _ (by omega)
            have hyc : yv = true ∨ (yv = false ∧ ¬ ((SY : Int) - (SK + TK) > 6)) ∨ (yv = false ∧ (SY : Int) - (SK + TK) > 6) := by
              cases yv
              · by_cases h : (SY : Int) - (SK + TK) > 6
                · exact .inr (.inr ⟨rfl, h⟩)
                · exact .inr (.inl ⟨rfl, h⟩)
              · exact .inl rfl
            have hnc : nv = true ∨ (nv = false ∧ ¬ ((SN : Int) - (SK + TK) > 6)) ∨ (nv = false ∧ (SN : Int) - (SK + TK) > 6) := by
              cases nv
              · by_cases h : (SN : Int) - (SK + TK) > 6
                · exact .inr (.inr ⟨rfl, h⟩)
                · exact .inr (.inl ⟨rfl, h⟩)
              · exact .inl rfl
            have HNC := Lib.hid hnc; clear hnc
            rcases hyc with rfl | ⟨rfl, hfy⟩ | ⟨rfl, hfy⟩
            case' inl =>
              have e1 : stepF (farY g ys ns) ys (k + 1) = stepF (farY g ys ns) ys k := stepF_same HYV.out (by simp)
              have HL1 := Lib.hid (show Lay W L yb nb ab n (stepF (farY g ys ns) ys (k + 1)) (stepF (farN g ys ns) ns k) ps' by rw [e1]; exact HLW.out)
              have HS1 := HSx.out
              rw [← e1] at HS1
              have HS2 := Lib.hid HS1
              clear HS1 e1 f1
              go_wp2
              go_quiet (fail)
              obtain ⟨W2, hW2⟩ : ∃ W2, W2 = W.drewN nq := ⟨_, rfl⟩
              go_wp2
              rw [← hW2]
              have HL2 := Lib.hid (show Lay W2 L yb nb ab n (stepF (farY g ys ns) ys (k + 1)) (stepF (farN g ys ns) ns k) ps' by rw [hW2]; exact HL1.out.below (drewN_below _ nq))
              have hb2 : Below w0.heap.size w0 W2 := by rw [hW2]; exact below_step hbW hbW.size (drewN_below _ nq)
              clear hW2 HL1
            case' inr.inl =>
              have hdf : decide ((SY : Int) - (SK + TK) > 6) = false := by simp; omega
              have e1 : stepF (farY g ys ns) ys (k + 1) = stepF (farY g ys ns) ys k := stepF_same HYV.out (by rw [HFY.out, hdf]; rfl)
              have HL1 := Lib.hid (show Lay W L yb nb ab n (stepF (farY g ys ns) ys (k + 1)) (stepF (farN g ys ns) ns k) ps' by rw [e1]; exact HLW.out)
              have HS1 := HSx.out
              rw [← e1] at HS1
              have HS2 := Lib.hid HS1
              clear HS1 e1 f1
              go_wp2
              go_quiet (fail)
              obtain ⟨W2, hW2⟩ : ∃ W2, W2 = W.drewN nq := ⟨_, rfl⟩
              go_wp2
              rw [← hW2]
              have HL2 := Lib.hid (show Lay W2 L yb nb ab n (stepF (farY g ys ns) ys (k + 1)) (stepF (farN g ys ns) ns k) ps' by rw [hW2]; exact HL1.out.below (drewN_below _ nq))
              have hb2 : Below w0.heap.size w0 W2 := by rw [hW2]; exact below_step hbW hbW.size (drewN_below _ nq)
              clear hW2 HL1
            case' inr.inr =>
              have hdf : decide ((SY : Int) - (SK + TK) > 6) = true := by simp; omega
              have e1 : stepF (farY g ys ns) ys (k + 1) = (stepF (farY g ys ns) ys k).set k true := by rw [stepF_set HYV.out, HFY.out, hdf]; rfl
              have hnr := nearN_set (stepF_at (P := farY g ys ns) HYV.out)
              rw [← e1] at hnr
              have HS2 := Lib.hid (show (false = true ∧ nearN (stepF (farY g ys ns) ys (k + 1)) + nearN (stepF (farN g ys ns) ns k) = nearN ys + nearN ns) ∨ (false = false ∧ nearN (stepF (farY g ys ns) ys (k + 1)) + nearN (stepF (farN g ys ns) ns k) < nearN ys + nearN ns) from .inr ⟨rfl, by rcases HSx.out with ⟨_, h⟩ | ⟨_, h⟩ <;> omega⟩)
              have HE1 := Lib.hid e1
              clear hnr e1
              go_wp2
              go_quiet (fail)
              have ff : (W.drewN nq).frozen? ⟨yb, k, none⟩ = false := f1
              obtain ⟨W2, hW2⟩ : ∃ W2, W2 = (W.drewN nq).setCell ⟨yb, k, none⟩ (.bool true) := ⟨_, rfl⟩
              go_wp2
              rw [← hW2]
              have HL2 := Lib.hid (show Lay W2 L yb nb ab n (stepF (farY g ys ns) ys (k + 1)) (stepF (farN g ys ns) ns k) ps' by rw [hW2, HE1.out]; exact (HLW.out.below (drewN_below _ nq)).set_yes k true)
              have hb2 : Below w0.heap.size w0 W2 := by rw [hW2]; exact (below_step hbW hbW.size (drewN_below _ nq)).setCell (p := ⟨yb, k, none⟩) hyb _
              clear hW2 ff HE1
            all_goals
              clear c5 c6 d1 d4 b0 b2 hw2 hbW HLW HSx
              obtain ⟨-, -, -, -, -, -, c6⟩ := HC.out W2 _ hb2 hab'
              rw [hnn] at c6
              have d2 := bRow_cell HL2.out.no (stepF_at (P := farN g ys ns) HNV.out)
              have f2 := HL2.out.no.frozen k
              have d5 := nRow_cell HL2.out.pl hst5.out
              have b1 := (show _ = some (Value.slice (some ⟨nb, 0, none⟩) n n) from HL2.out.box.cell 1)
              have b2 := (show _ = some (Value.slice (some ⟨ab, 0, none⟩) n n) from HL2.out.box.cell 2)
              rcases HNC.out with rfl | ⟨rfl, hfn⟩ | ⟨rfl, hfn⟩
              · have e2 : stepF (farN g ys ns) ns (k + 1) = stepF (farN g ys ns) ns k := stepF_same HNV.out (by simp)
                have HE2 := Lib.hid e2
                clear e2 f2
                go_wp2
                go_quiet (fail)
                go_wp2
                exact ⟨⟨k + 1, _, by omega, by go_num, rfl, by rw [HE2.out]; exact HL2.out.below (drewN_below _ nq), by rw [HE2.out]; first | exact HS2.out | (have h := HS2.out; simpa using h), below_step hb2 hb2.size (drewN_below _ nq)⟩, by simp [intOf]; omega⟩
              · have hdn : decide ((SN : Int) - (SK + TK) > 6) = false := by simp; omega
                have e2 : stepF (farN g ys ns) ns (k + 1) = stepF (farN g ys ns) ns k := stepF_same HNV.out (by rw [HFN.out, hdn]; rfl)
                have HE2 := Lib.hid e2
                clear e2 f2
                go_wp2
                go_quiet (fail)
                go_wp2
                exact ⟨⟨k + 1, _, by omega, by go_num, rfl, by rw [HE2.out]; exact HL2.out.below (drewN_below _ nq), by rw [HE2.out]; first | exact HS2.out | (have h := HS2.out; simpa using h), below_step hb2 hb2.size (drewN_below _ nq)⟩, by simp [intOf]; omega⟩
              · have hdn : decide ((SN : Int) - (SK + TK) > 6) = true := by simp; omega
                have e2 : stepF (farN g ys ns) ns (k + 1) = (stepF (farN g ys ns) ns k).set k true := by rw [stepF_set HNV.out, HFN.out, hdn]; rfl
                have hnr := nearN_set (stepF_at (P := farN g ys ns) HNV.out)
                rw [← e2] at hnr
                have HR := Lib.hid hnr; have HE2 := Lib.hid e2
                clear hnr e2
                go_wp2
                go_quiet (fail)
                have ff : (W2.drewN nq).frozen? ⟨nb, k, none⟩ = false := f2
                go_wp2
                exact ⟨⟨k + 1, _, by omega, by go_num, rfl, by rw [HE2.out]; exact (HL2.out.below (drewN_below _ nq)).set_no k true, .inr ⟨rfl, by rcases HS2.out with ⟨_, h⟩ | ⟨_, h⟩ <;> (have := HR.out; omega)⟩, (below_step hb2 hb2.size (drewN_below _ nq)).setCell (p := ⟨nb, k, none⟩) hnb _⟩, by simp [intOf]; omega⟩
        · obtain rfl : k = n := by omega
          have HLx := Lib.hid hL; have HSx := Lib.hid hsum; clear hL hsum
          go_wp2
          go_ret
          refine ⟨okb, ps', rfl, by unfold nextY nextN; rw [HN.out]; exact HLx.out, HST.out, ?_, hbw2⟩
          unfold nextY nextN
          rw [HN.out]
          have n1 := stepF_near (farY g ys ns) ys k
          have n2 := stepF_near (farN g ys ns) ns k
          constructor
          · intro hok
            rcases HSx.out with ⟨_, h⟩ | ⟨h, _⟩
            · refine ⟨Decidable.byContradiction fun hne => ?_, Decidable.byContradiction fun hne => ?_⟩
              · have := n1.2 hne; omega
              · have := n2.2 hne; omega
            · rw [hok] at h; cases h
          · rintro ⟨h1, h2⟩
            rcases HSx.out with ⟨h, _⟩ | ⟨_, h⟩
            · exact h
            · rw [h1, h2] at h; omega
end Go.Proofs.YtcomdkmglihdbaaGreatDoor
